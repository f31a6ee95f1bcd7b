/- Rows of marks; where a block's samples stand, as numbers; marks. -/
import Derived.Test.YtgcmdgolkidemaaWh1
import Derived.BigQuiet
namespace Go.Proofs.Ytgcmdgolkidemaa
open Go.RowKit
namespace Wh
open Fr L13

def BArr (w : World) (b n : Nat) (f : Nat → Bool) : Prop := ∀ i, i < n → w.cell? ⟨b, i, none⟩ = some (.bool (f i)) ∧ w.frozen? ⟨b, i, none⟩ = false
theorem BArr.below {w w' : World} {b n B : Nat} {f : Nat → Bool} (h : BArr w b n f) (hw : Below B w w') (hb : b < B) : BArr w' b n f :=
  fun i hi => ⟨(hw.cell (p := ⟨b, i, none⟩) hb).trans (h i hi).1, (hw.frozen (p := ⟨b, i, none⟩) hb).trans (h i hi).2⟩
theorem BArr.congr {w : World} {b n : Nat} {f g : Nat → Bool} (h : BArr w b n f) (hg : ∀ i, i < n → f i = g i) : BArr w b n g := fun i hi => by rw [← hg i hi]; exact h i hi
theorem BArr.lt {w : World} {b n : Nat} {f : Nat → Bool} (h : BArr w b n f) (hn : 0 < n) : b < w.heap.size := World.block_lt_of_cell? w _ (h 0 hn).1
theorem BArr.set {w : World} {b n : Nat} {f : Nat → Bool} (h : BArr w b n f) (j : Nat) (x : Bool) : BArr (w.setCell ⟨b, j, none⟩ (.bool x)) b n (fun i => if i = j then x else f i) := by
  intro i hi
  have hc := h i hi
  refine ⟨?_, by rw [World.frozen?_setCell]; exact hc.2⟩
  by_cases e : i = j
  · subst e
    simp only [if_true]
    exact World.cell?_setCell_same' _ _ _ (by rw [hc.1]; rfl)
  · simp only [if_neg e]
    rw [World.cell?_setCell_other]
    · exact hc.1
    · intro q; cases q; exact e rfl
theorem made_barr {w : World} {base g N : Nat} {e : TypeId} (h : w.ownsRow base e 1 (.slice (some ⟨g, 0, none⟩) N N) N (madeCells (Value.bool false).cells (N * 1)).toList) : BArr w g N (fun _ => false) := by
  have hc := fun j u hu => World.ownsRow.cells h (g := g) rfl j u hu
  rcases h.2 with ⟨h0, _⟩ | ⟨g', cap, cur, h1, h2, h3, h4⟩
  · cases h0
  · cases h1
    intro i hi
    have h5 := hc i (.bool false) (by simp [madeCells, Value.cells, hi, Nat.mod_one])
    rw [show (⟨g, 0, none⟩ : Addr).add i = ⟨g, i, none⟩ by unfold Addr.add; split <;> simp_all] at h5
    exact ⟨h5, frozen_of_row h3 i⟩
theorem info_bool : (Try.prog.info? 4).map (fun i => (i.zero, i.size, i.bytes)) = some (some (.bool false), 1, 1) := by kernel_rfl
theorem ix_pl0 (j a k i : Nat) (hj : j < 3) (ha : 1 ≤ a ∧ a ≤ 33) (hk : 1 ≤ k ∧ k ≤ 6) : (ix0 j (a - 1) (k - 1) i : Int) = Pt.bA 0 (cX 0 (grF 0 j) a) (cY 0 (grF 0 j) a) k + (i : Int) / 8 * Pt.bS 0 k + (i : Int) % 8 := by
  have hc := cE_ok 0 (grF 0 j) a (by decide) (ing_of 0 j hj) (by omega)
  have eX : cX 0 (grF 0 j) a = ((a : Int) - 1) % 11 * 16 := by
    unfold cX; rw [if_pos hc, if_neg (by decide)]; omega
  have eY : cY 0 (grF 0 j) a = ((a : Int) - 1) / 11 * 16 + (j : Int) * 48 := by
    unfold cY; rw [if_pos hc]; unfold grF; omega
  rw [eX, eY]
  unfold Pt.bA Pt.bS
  rw [show wV 0 = 176 from rfl, show hV 0 = 144 from rfl]
  rcases (by omega : k = 1 ∨ k = 2 ∨ k = 3 ∨ k = 4 ∨ k = 5 ∨ k = 6) with rfl | rfl | rfl | rfl | rfl | rfl
  · rw [if_pos (by decide), if_pos (by decide)]; show ((lu0 j (a - 1) 0 i : Nat) : Int) = _; unfold lu0; omega
  · rw [if_pos (by decide), if_pos (by decide)]; show ((lu0 j (a - 1) 1 i : Nat) : Int) = _; unfold lu0; omega
  · rw [if_pos (by decide), if_pos (by decide)]; show ((lu0 j (a - 1) 2 i : Nat) : Int) = _; unfold lu0; omega
  · rw [if_pos (by decide), if_pos (by decide)]; show ((lu0 j (a - 1) 3 i : Nat) : Int) = _; unfold lu0; omega
  · rw [if_neg (by decide), if_neg (by decide)]; show ((ch0 j (a - 1) 4 i : Nat) : Int) = _; unfold ch0; omega
  · rw [if_neg (by decide), if_neg (by decide)]; show ((ch0 j (a - 1) 5 i : Nat) : Int) = _; unfold ch0; omega
theorem ix_pl1 (j a k i : Nat) (hj : j < 12) (ha : 1 ≤ a ∧ a ≤ 33) (hk : 1 ≤ k ∧ k ≤ 6) : (ix1 j (a - 1) (k - 1) i : Int) = Pt.bA 1 (cX 1 (grF 1 j) a) (cY 1 (grF 1 j) a) k + (i : Int) / 8 * Pt.bS 1 k + (i : Int) % 8 := by
  have hc := cE_ok 1 (grF 1 j) a (by decide) (ing_of 1 j hj) (by omega)
  have eX : cX 1 (grF 1 j) a = ((a : Int) - 1) % 11 * 16 + (j : Int) % 2 * 176 := by
    unfold cX; rw [if_pos hc, if_pos rfl]; unfold grF; omega
  have eY : cY 1 (grF 1 j) a = ((a : Int) - 1) / 11 * 16 + (j : Int) / 2 * 48 := by
    unfold cY; rw [if_pos hc]; unfold grF; omega
  rw [eX, eY]
  unfold Pt.bA Pt.bS
  rw [show wV 1 = 352 from rfl, show hV 1 = 288 from rfl]
  rcases (by omega : k = 1 ∨ k = 2 ∨ k = 3 ∨ k = 4 ∨ k = 5 ∨ k = 6) with rfl | rfl | rfl | rfl | rfl | rfl
  · rw [if_pos (by decide), if_pos (by decide)]; show ((lu1 j (a - 1) 0 i : Nat) : Int) = _; unfold lu1; omega
  · rw [if_pos (by decide), if_pos (by decide)]; show ((lu1 j (a - 1) 1 i : Nat) : Int) = _; unfold lu1; omega
  · rw [if_pos (by decide), if_pos (by decide)]; show ((lu1 j (a - 1) 2 i : Nat) : Int) = _; unfold lu1; omega
  · rw [if_pos (by decide), if_pos (by decide)]; show ((lu1 j (a - 1) 3 i : Nat) : Int) = _; unfold lu1; omega
  · rw [if_neg (by decide), if_neg (by decide)]; show ((ch1 j (a - 1) 4 i : Nat) : Int) = _; unfold ch1; omega
  · rw [if_neg (by decide), if_neg (by decide)]; show ((ch1 j (a - 1) 5 i : Nat) : Int) = _; unfold ch1; omega
set_option maxRecDepth 100000 in
set_option maxHeartbeats 1000000 in
theorem marks_any (gs N c : Nat) (A S : Int) (P : Nat → Nat) (Fs : Nat → Nat → Bool) (w : World) (hN : N ≤ 200000) (bA : 0 ≤ A ∧ A ≤ 200000) (bS : 0 ≤ S ∧ S ≤ 1000) (hA : BArr w gs N (Fs 0))
    (hP : ∀ i, i < 64 → (P i : Int) = A + (i : Int) / 8 * S + (i : Int) % 8 ∧ P i < N ∧ Fs i (P i) = false ∧ ∀ p, p < N → Fs (i + 1) p = (decide (p = P i) || Fs i p)) :
    Calls Try.prog 25 #[.slice (some ⟨gs, 0, none⟩) N c, .int .i64 A, .int .i64 S] w fun e w' => e = .returned (.bool true) ∧ BArr w' gs N (Fs 64) ∧ w.grownBy w' (some gs) := by
  have HA0 := Lib.hid hA
  have HP := Lib.hid hP
  clear hA hP
  go_enter Try.func25, Try.ntmps25
  go_wp2_with fail
  go_loopw [7] (fun i wr => ∃ j : Nat, j ≤ 64 ∧ i = .int .i64 j ∧ BArr wr gs N (Fs j) ∧ w.grownBy wr (some gs)) (fun i _ => 64 - (intOf i).toNat)
  case atStart => exact ⟨0, by omega, rfl, HA0.out, World.grownBy.refl _ _⟩
  case round =>
    obtain ⟨j, hj, rfl, hA, hG⟩ := hrel
    have HA := Lib.hid hA
    have HG := Lib.hid hG
    clear hA hG
    by_cases hj4 : j < 64
    · obtain ⟨h1, h2, h3, h4⟩ := HP.out j hj4
      obtain ⟨z, hz⟩ : ∃ z, P j = z := ⟨_, rfl⟩
      rw [hz] at h1 h2 h3 h4
      have H4 := Lib.hid h4
      obtain ⟨c1, f1⟩ := HA.out z h2
      rw [h3] at c1
      obtain ⟨Q, hQ⟩ : ∃ Q, (j : Int) / 8 * S = Q := ⟨_, rfl⟩
      rw [hQ] at h1
      have j8 : 0 ≤ (j : Int) / 8 ∧ (j : Int) / 8 ≤ 7 := by omega
      have bQ : 0 ≤ Q ∧ Q ≤ 7 * 1000 := by
        rw [← hQ]
        exact ⟨Int.mul_nonneg j8.1 bS.1, Int.mul_le_mul j8.2 bS.2 bS.1 (by decide)⟩
      have E1 : IntKind.i64.wrap ((j : Int) / 8 * S) = Q := by rw [hQ]; exact IntWalk.i64_in _ (by omega)
      have E2 : IntKind.i64.wrap (A + Q + (j : Int) % 8) = (z : Int) := by rw [← h1]; exact IntWalk.i64_in _ (by omega)
      have E3 : A + Q + (j : Int) % 8 = (z : Int) := h1.symm
      have zn : decide ((z : Int) < 0) = false := decide_eq_false (by omega)
      have zN : decide ((N : Int) ≤ (z : Int)) = false := decide_eq_false (by omega)
      have zN' : decide (N ≤ z) = false := decide_eq_false (by omega)
      have zb : (0 : Int) ≤ (z : Int) ∧ (z : Int) < (N : Int) := by omega
      have HA2 : Hid (BArr (wr.setCell ⟨gs, z, none⟩ (.bool true)) gs N (Fs (j + 1))) := Lib.hid ((HA.out.set z true).congr (fun p hp => by
        rw [H4.out p hp]
        by_cases e : p = z <;> simp [e]))
      have HG2 := Lib.hid (grown_set HG.out z (.bool true))
      clear h1 h3 h4 hQ hz
      go_wp2_with fail
      go_roundw
      case rel => exact ⟨j + 1, by omega, by go_num, HA2.out, HG2.out⟩
      case measure => simp [intOf]; omega
    · obtain rfl : j = 64 := by omega
      go_wp2_with fail
      go_ret
      exact ⟨rfl, HA.out, HG.out⟩
end Wh
end Go.Proofs.Ytgcmdgolkidemaa
