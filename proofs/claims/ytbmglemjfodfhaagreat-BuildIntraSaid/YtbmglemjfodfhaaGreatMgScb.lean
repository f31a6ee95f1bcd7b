/- Scenes and spots made by numbers. | praxinoscopekit.Scene: bytes. -/
import Derived.Test.YtbmglemjfodfhaaGreatMgFr3
import Derived.Test.YtbmglemjfodfhaaGreatMgLent
import Derived.Test.YtbmglemjfodfhaaGreatMgPick
set_option linter.unusedVariables false
set_option linter.unusedSimpArgs false

namespace Go.Proofs.YtbmglemjfodfhaaGreat
open Go.RowKit
namespace Mo
open Fr
def szV (n : Int) : Int := if n = 0 then 38016 else if n = 1 then 152064 else 0
theorem size_any (n : Int) (w : World) : Calls Tryz.prog 43 #[.int .i64 n] w fun e w' => e = .returned (.int .i64 (szV n)) ∧ w = w' := by
  by_cases h0 : n = 0
  · subst h0
    go_enter Tryz.func43, Tryz.ntmps43
    go_wp2
    go_ret
    exact ⟨rfl, rfl⟩
  · by_cases h1 : n = 1
    · subst h1
      go_enter Tryz.func43, Tryz.ntmps43
      go_wp2
      go_ret
      exact ⟨rfl, rfl⟩
    · have E : Hid (szV n = 0) := Lib.hid (by unfold szV; rw [if_neg h0, if_neg h1])
      have k0 : (n == 0) = false := by simp [h0]
      have k1 : (n == 1) = false := by simp [h1]
      clear h0 h1
      go_enter Tryz.func43, Tryz.ntmps43
      go_wp2
      go_ret
      exact ⟨by rw [E.out]; rfl, rfl⟩
theorem Spot_any (f g a : Int) (w : World) : Calls Tryz.prog 29 #[.int .i64 f, .int .i64 g, .int .i64 a] w fun e w' => e = .returned (.agg #[.int .i64 (f % 2), .int .i64 (if f % 2 = 0 then 1 + 2 * (g % 3) else 1 + g % 12), .int .i64 (1 + a % 33)]) ∧ Below w.heap.size w w' := by
  have m1 := Int.emod_nonneg f (show (2 : Int) ≠ 0 by omega)
  have m2 := Int.emod_lt_of_pos f (show (0 : Int) < 2 by omega)
  have m3 := Int.emod_nonneg g (show (12 : Int) ≠ 0 by omega)
  have m4 := Int.emod_lt_of_pos g (show (0 : Int) < 12 by omega)
  have m5 := Int.emod_nonneg a (show (33 : Int) ≠ 0 by omega)
  have m6 := Int.emod_lt_of_pos a (show (0 : Int) < 33 by omega)
  have m7 := Int.emod_nonneg g (show (3 : Int) ≠ 0 by omega)
  have m8 := Int.emod_lt_of_pos g (show (0 : Int) < 3 by omega)
  obtain ⟨F, hF⟩ : ∃ F, f % 2 = F := ⟨_, rfl⟩
  obtain ⟨G, hG⟩ : ∃ G, g % 12 = G := ⟨_, rfl⟩
  obtain ⟨H, hH⟩ : ∃ H, g % 3 = H := ⟨_, rfl⟩
  obtain ⟨A, hA⟩ : ∃ A, a % 33 = A := ⟨_, rfl⟩
  rw [hF, hG, hH, hA]
  rw [hF] at m1 m2
  rw [hG] at m3 m4
  rw [hA] at m5 m6
  rw [hH] at m7 m8
  have HF := Lib.hid hF
  have HG := Lib.hid hG
  have HH := Lib.hid hH
  have HA := Lib.hid hA
  clear hF hG hH hA
  by_cases h0 : F = 0
  · rw [if_pos h0]
    have k0 : (F == 0) = true := by simp [h0]
    clear h0
    go_enter Tryz.func29, Tryz.ntmps29
    go_wp2_with fail
    refine (Pick_any f 2 _ (by omega) (by omega)).mono ?_
    rintro e w1 ⟨rfl, rfl⟩
    rw [HF.out]
    go_wp2_with fail
    refine (Pick_any g 12 _ (by omega) (by omega)).mono ?_
    rintro e w1 ⟨rfl, rfl⟩
    rw [HG.out]
    go_wp2_with fail
    refine (Pick_any a 33 _ (by omega) (by omega)).mono ?_
    rintro e w1 ⟨rfl, rfl⟩
    rw [HA.out]
    go_wp2_with fail
    refine (Pick_any g 3 _ (by omega) (by omega)).mono ?_
    rintro e w1 ⟨rfl, rfl⟩
    rw [HH.out]
    go_wp2_with fail
    refine bodyPost_ret (results_cell_row rfl _ _ w.heap.size _ _ _ _ rfl ((Below.heap_alloc (w.alloc _) _ w.heap.size (by simp)).trans (heap_alloc_new w _)) Tryz.underlying28 rfl (by kernel_rfl)) rfl ?_
    exact ⟨rfl, ((Below.refl _ _).alloc (Nat.le_refl _) _).alloc (by simp) _⟩
  · rw [if_neg h0]
    have k0 : (F == 0) = false := by simp [h0]
    clear h0
    go_enter Tryz.func29, Tryz.ntmps29
    go_wp2_with fail
    refine (Pick_any f 2 _ (by omega) (by omega)).mono ?_
    rintro e w1 ⟨rfl, rfl⟩
    rw [HF.out]
    go_wp2_with fail
    refine (Pick_any g 12 _ (by omega) (by omega)).mono ?_
    rintro e w1 ⟨rfl, rfl⟩
    rw [HG.out]
    go_wp2_with fail
    refine (Pick_any a 33 _ (by omega) (by omega)).mono ?_
    rintro e w1 ⟨rfl, rfl⟩
    rw [HA.out]
    go_wp2_with fail
    refine bodyPost_ret (results_cell_row rfl _ _ w.heap.size _ _ _ _ rfl ((Below.heap_alloc (w.alloc _) _ w.heap.size (by simp)).trans (heap_alloc_new w _)) Tryz.underlying28 rfl (by kernel_rfl)) rfl ?_
    exact ⟨rfl, ((Below.refl _ _).alloc (Nat.le_refl _) _).alloc (by simp) _⟩
theorem made_arr {w : World} {base g N : Nat} {e : TypeId} (h : w.ownsRow base e 1 (.slice (some ⟨g, 0, none⟩) N N) N (madeCells (Value.int .u8 0).cells (N * 1)).toList) : Arr w .u8 g N (fun _ => 0) := by
  have hc := fun j u hu => World.ownsRow.cells h (g := g) rfl j u hu
  rcases h.2 with ⟨h0, _⟩ | ⟨g', cap, cur, h1, h2, h3, h4⟩
  · cases h0
  · cases h1
    intro i hi
    have h5 := hc i (.int .u8 0) (by simp [madeCells, Value.cells, hi, Nat.mod_one])
    rw [show (⟨g, 0, none⟩ : Addr).add i = ⟨g, i, none⟩ by unfold Addr.add; split <;> simp_all] at h5
    exact ⟨h5, frozen_of_row h3 i⟩
set_option maxRecDepth 100000 in
set_option maxHeartbeats 1000000 in
theorem Scene_any (n a b : Int) (N : Nat) (hn : n = 0 ∨ n = 1) (hN : (N : Int) = zV n) (w : World) :
    Calls Tryz.prog 13 #[.int .i64 n, .int .i64 a, .int .i64 b] w fun e w' => ∃ g F, e = .returned (.slice (some ⟨g, 0, none⟩) N N) ∧ w.heap.size ≤ g ∧ g < w'.heap.size ∧ Arr w' .u8 g N F ∧ Below w.heap.size w w' := by
  have ES : Hid (szV n = (N : Int)) := Lib.hid (by rw [hN]; rcases hn with rfl | rfl <;> rfl)
  have Nb : 0 < N ∧ N ≤ 152064 := by rcases hn with rfl | rfl <;> (have : (N : Int) = _ := hN; simp [zV] at this; omega)
  clear hN hn
  obtain ⟨i0, hi, hz0, hz1, hz2⟩ := info_parts info_byte
  go_enter Tryz.func13, Tryz.ntmps13
  go_wp2_with fail
  refine (size_any n _).mono ?_
  rintro e w1 ⟨rfl, rfl⟩
  rw [ES.out]
  go_wp2_with (refine wpList_make_full w rfl _ _ 30 rfl w.heap.size 5 i0 (.int .u8 0) 1 Tryz.underlying30 hi hz0 hz1 .i64 .i64 _ _ N rfl rfl rfl rfl (by rw [hz2]; omega) (by unfold maxLen; omega) (Nat.le_refl _) ?_; intro w1 hown hgr; have HA := Lib.hid (made_arr hown); have HB := Lib.hid ((Below.refl w.heap.size w).grown hgr (Nat.le_refl _) (fun _ e => by cases e)); clear hown hgr)
  go_loopw [8, 9] (fun X i wr => ∃ (k : Nat) (xx : Int), k ≤ N ∧ X = .int .u64 xx ∧ i = .int .i64 k ∧ (∃ F, Arr wr .u8 w.heap.size N F) ∧ Below w.heap.size w wr) (fun _ i _ => N - (intOf i).toNat)
  case atStart => exact ⟨0, _, by omega, rfl, rfl, ⟨_, HA.out⟩, HB.out⟩
  case round =>
    clear HA HB
    obtain ⟨k, xx, hk, rfl, rfl, ⟨F, hA⟩, hB⟩ := hrel
    by_cases hkn : k < N
    · have c1 := hA k hkn
      have HA := Lib.hid hA
      have HB := Lib.hid hB
      have kb : (0 : Int) ≤ (k : Int) ∧ (k : Int) < (N : Int) := by omega
      clear hA hB
      go_wp2_with fail
      go_roundw
      case rel => exact ⟨k + 1, _, by omega, rfl, by go_num, ⟨_, HA.out.set k _⟩, HB.out.setCell (p := ⟨w.heap.size, k, none⟩) (Nat.le_refl _) _⟩
      case measure => simp [intOf]; omega
    · have hk' : N ≤ k := by omega
      have HA := Lib.hid hA
      have HB := Lib.hid hB
      have hlt := hA.lt Nb.1
      clear hA hB
      go_wp2_with fail
      go_ret
      exact ⟨_, F, rfl, Nat.le_refl _, hlt, HA.out, HB.out⟩

end Mo
end Go.Proofs.YtbmglemjfodfhaaGreat

namespace Go.Proofs.YtbmglemjfodfhaaGreat
open Go.RowKit
namespace Mo
open Fr
theorem u8_bd (x : Int) : 0 ≤ IntKind.u8.wrap x ∧ IntKind.u8.wrap x ≤ 255 := by rw [IntKind.wrap_u8]; omega
set_option maxRecDepth 100000 in
set_option maxHeartbeats 1000000 in
theorem SceneB_any (n a b : Int) (N : Nat) (hn : n = 0 ∨ n = 1) (hN : (N : Int) = zV n) (w : World) :
    Calls Tryz.prog 13 #[.int .i64 n, .int .i64 a, .int .i64 b] w fun e w' => ∃ g F, e = .returned (.slice (some ⟨g, 0, none⟩) N N) ∧ w.heap.size ≤ g ∧ g < w'.heap.size ∧ Arr w' .u8 g N F ∧ (∀ i, 0 ≤ F i ∧ F i ≤ 255) ∧ Below w.heap.size w w' := by
  have ES : Hid (szV n = (N : Int)) := Lib.hid (by rw [hN]; rcases hn with rfl | rfl <;> rfl)
  have Nb : 0 < N ∧ N ≤ 152064 := by rcases hn with rfl | rfl <;> (have : (N : Int) = _ := hN; simp [zV] at this; omega)
  clear hN hn
  obtain ⟨i0, hi, hz0, hz1, hz2⟩ := info_parts info_byte
  go_enter Tryz.func13, Tryz.ntmps13
  go_wp2_with fail
  refine (size_any n _).mono ?_
  rintro e w1 ⟨rfl, rfl⟩
  rw [ES.out]
  go_wp2_with (refine wpList_make_full w rfl _ _ 30 rfl w.heap.size 5 i0 (.int .u8 0) 1 Tryz.underlying30 hi hz0 hz1 .i64 .i64 _ _ N rfl rfl rfl rfl (by rw [hz2]; omega) (by unfold maxLen; omega) (Nat.le_refl _) ?_; intro w1 hown hgr; have HA := Lib.hid (made_arr hown); have HB := Lib.hid ((Below.refl w.heap.size w).grown hgr (Nat.le_refl _) (fun _ e => by cases e)); clear hown hgr)
  go_loopw [8, 9] (fun X i wr => ∃ (k : Nat) (xx : Int), k ≤ N ∧ X = .int .u64 xx ∧ i = .int .i64 k ∧ (∃ F, Arr wr .u8 w.heap.size N F ∧ ∀ i, 0 ≤ F i ∧ F i ≤ 255) ∧ Below w.heap.size w wr) (fun _ i _ => N - (intOf i).toNat)
  case atStart => exact ⟨0, _, by omega, rfl, rfl, ⟨_, HA.out, fun _ => by omega⟩, HB.out⟩
  case round =>
    clear HA HB
    obtain ⟨k, xx, hk, rfl, rfl, ⟨F, hA, hF⟩, hB⟩ := hrel
    have HFb := Lib.hid hF
    clear hF
    by_cases hkn : k < N
    · have c1 := hA k hkn
      have HA := Lib.hid hA
      have HB := Lib.hid hB
      have kb : (0 : Int) ≤ (k : Int) ∧ (k : Int) < (N : Int) := by omega
      clear hA hB
      go_wp2_with fail
      go_roundw
      case rel => exact ⟨k + 1, _, by omega, rfl, by go_num, ⟨_, HA.out.set k _, fun m => by
        by_cases hm : m = k
        · rw [if_pos hm]; exact u8_bd _
        · rw [if_neg hm]; exact HFb.out m⟩, HB.out.setCell (p := ⟨w.heap.size, k, none⟩) (Nat.le_refl _) _⟩
      case measure => simp [intOf]; omega
    · have hk' : N ≤ k := by omega
      have HA := Lib.hid hA
      have HB := Lib.hid hB
      have hlt := hA.lt Nb.1
      clear hA hB
      go_wp2_with fail
      go_ret
      exact ⟨_, F, rfl, Nat.le_refl _, hlt, HA.out, HFb.out, HB.out⟩

end Mo
end Go.Proofs.YtbmglemjfodfhaaGreat
