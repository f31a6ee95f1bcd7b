/- Eight numbers, summed by the weights. -/
import Derived.Test.YtkeefdlnolcapaaCosW
import Derived.BigRegion
namespace Go.Proofs.Ytkeefdlnolcapaa
open Go.RowKit
namespace Co

/-- a sum by weights, as a machine comes to it. -/
def accW (l : Nat → Int) (x : Nat) : Nat → Int
  | 0 => 0
  | u + 1 => if l u = 0 then accW l x u else wrap64 (accW l x u + wrap64 (wtF (u * 8 + x) * l u))
theorem accW_zero {l : Nat → Int} {u : Nat} (h : l u = 0) (x : Nat) : accW l x (u + 1) = accW l x u := by simp only [accW]; rw [if_pos h]
theorem accW_not {l : Nat → Int} {u : Nat} (h : l u ≠ 0) (x : Nat) : accW l x (u + 1) = wrap64 (accW l x u + wrap64 (wtF (u * 8 + x) * l u)) := by simp only [accW]; rw [if_neg h]
theorem wtF_at (u x : Nat) (hx : x < 8) : wtF (u * 8 + x) = Wt u x := by
  unfold wtF
  rw [show (u * 8 + x) / 8 = u by omega, show (u * 8 + x) % 8 = x by omega]
/-- of numbers within bounds it is the sum. -/
theorem accW_sum (l : Nat → Int) (B : Int) (hB : 0 ≤ B ∧ B ≤ 1099511627776) (hl : ∀ u, u < 8 → -B ≤ l u ∧ l u ≤ B) (x : Nat) (hx : x < 8) : ∀ n, n ≤ 8 → accW l x n = sumN n (fun u => Wt u x * l u)
  | 0, _ => rfl
  | n + 1, hn => by
    have ih := accW_sum l B hB hl x hx n (by omega)
    have b1 := part_bd l B hl n x (by omega) hx
    have b2 := mul_bd _ _ _ _ (Wt_bd n x (by omega) hx) (hl n (by omega))
    have b3 : (n : Int) * (2048 * B) ≤ 8 * (2048 * B) := Int.mul_le_mul_of_nonneg_right (by omega) (by omega)
    simp only [sumN]
    by_cases h : l n = 0
    · rw [accW_zero h, ih, h]; omega
    · rw [accW_not h, ih, wtF_at n x hx, IntWalk.wrap64_in (Wt n x * l n) (by omega), IntWalk.wrap64_in _ (by omega)]

set_option maxRecDepth 100000 in
set_option maxHeartbeats 2000000 in
theorem line_any (l : Nat → Int) (gw : Nat) (w : World) (hW : Arr w .i64 gw 64 wtF) :
    Calls Try.prog 46 #[.agg (rowOf .i64 8 l), .pointer (some ⟨gw, 0, none⟩)] w fun e w' => e = .returned (.agg (rowOf .i64 8 (fun x => accW l x 8))) ∧ Below w.heap.size w w' := by
  have glt := hW.lt (by omega)
  have HW := Lib.hid hW
  have M1 := Lib.hid ((Arr.new w .i64 (rowOf .i64 8 l) 57 8 l (fun i hi => rowOf_get _ _ _ _ hi)).alloc (.cells (rowOf .i64 8 (fun _ => 0)) 57))
  have M2 := Arr.new (w.alloc (.cells (rowOf .i64 8 l) 57)) .i64 (rowOf .i64 8 (fun _ => 0)) 57 8 (fun _ => 0) (fun i hi => rowOf_get _ _ _ _ hi)
  rw [World.size_alloc] at M2
  have M2 := Lib.hid M2
  clear hW
  go_enter Try.func46, Try.ntmps46
  go_wp2_with (refine wpList_load_arr rfl 57 (.tmp 2) rfl rfl M1.out Try.underlying57 (by kernel_rfl) ?_)
  have hgN : gw ≠ w.heap.size + 1 := by omega
  go_loopw [9] (fun i wr => ∃ u : Nat, u ≤ 8 ∧ i = .int .i64 u ∧ Arr wr .i64 (w.heap.size + 1) 8 (fun x => accW l x u) ∧ Below w.heap.size w wr) (fun i _ => 8 - (intOf i).toNat)
  case atStart => exact ⟨0, by omega, rfl, M2.out.congr (fun i _ => rfl), ((Below.refl _ _).alloc (Nat.le_refl _) _).alloc (by simp) _⟩
  case round =>
    obtain ⟨u, hu, rfl, hA, hB⟩ := hrel
    by_cases hu8 : u < 8
    · have ub : (0 : Int) ≤ (u : Int) ∧ (u : Int) < 8 := by omega
      have ix := fun w' => run_index_num (P := Try.prog) w' (k := .i64) (f := l) (n := 8) Try.underlying57 Try.underlying3 (by kernel_rfl) .i64 u (u : Int) rfl hu8
      by_cases h0 : l u = 0
      · have kd : (l u == 0) = true := by simp [h0]
        have HA : Hid (Arr wr .i64 (w.heap.size + 1) 8 (fun x => accW l x (u + 1))) := Lib.hid (hA.congr fun x _ => (accW_zero h0 x).symm)
        have HB := Lib.hid hB
        clear hA hB
        go_wp2
        go_roundw
        case rel => exact ⟨u + 1, by omega, by go_num, HA.out, HB.out⟩
        case measure => simp [intOf]; omega
      · have kd : (l u == 0) = false := by simp [h0]
        obtain ⟨wo, rfl⟩ : ∃ wo : World, wo = wr := ⟨_, rfl⟩
        have WO := Lib.hid (HW.out.below hB glt)
        have HA := Lib.hid hA
        have HB := Lib.hid hB
        have hlt := hA.lt (by omega)
        clear hA hB
        go_wp2
        go_loopw [15] (fun i wr => ∃ x : Nat, x ≤ 8 ∧ i = .int .i64 x ∧ Arr wr .i64 (w.heap.size + 1) 8 (fun i => if i < x then accW l i (u + 1) else accW l i u) ∧ Arr wr .i64 gw 64 wtF ∧ Below w.heap.size w wr) (fun i _ => 8 - (intOf i).toNat)
        case atStart => exact ⟨0, by omega, rfl, HA.out.congr (fun i _ => by rw [if_neg (by omega)]), WO.out, HB.out⟩
        case round =>
          obtain ⟨x, hx, rfl, hA, hG, hB⟩ := hrel
          by_cases hx8 : x < 8
          · have cx := hA x hx8
            simp only [Nat.lt_irrefl, if_false] at cx
            obtain ⟨cx1, cx2⟩ := cx
            have cg := (hG (u * 8 + x) (by omega)).1
            have xb : (0 : Int) ≤ (x : Int) ∧ (x : Int) < 8 := by omega
            have ev := Lib.hid (accW_not h0 x)
            have HA := Lib.hid hA
            have HG := Lib.hid hG
            have HB := Lib.hid hB
            clear hA hB hG
            go_wp2_with fail
            go_region
            go_wp2
            go_roundw
            case rel => exact ⟨x + 1, by omega, by go_num, (HA.out.fill _ ev.out.symm).drew, (HG.out.far (a := ⟨w.heap.size + 1, x, none⟩) hgN.symm _).drew, (HB.out.setCell (p := ⟨w.heap.size + 1, x, none⟩) (by simp) _).drew⟩
            case measure => simp [intOf]; omega
          · have hA8 : Arr wr .i64 (w.heap.size + 1) 8 (fun i => accW l i (u + 1)) := by
              obtain rfl : x = 8 := by omega
              exact hA.filled
            have hx' : 8 ≤ x := by omega
            have HA := Lib.hid hA8
            have HB := Lib.hid hB
            clear hA hB hG hA8 hx hx8
            go_wp2
            go_roundw
            case rel => exact ⟨u + 1, by omega, by go_num, HA.out, HB.out⟩
            case measure => simp [intOf]; omega
    · have hA' : Arr wr .i64 (w.heap.size + 1) 8 (fun x => accW l x 8) := by
        obtain rfl : u = 8 := by omega
        exact hA
      have hu' : 8 ≤ u := by omega
      have HA := Lib.hid hA'
      have HB := Lib.hid hB
      clear hA hA' hB hu hu8
      go_wp2_with (first
        | (refine wpList_load_arr rfl 57 (.tmp 4) rfl rfl HA.out Try.underlying57 (by kernel_rfl) ?_)
        | (refine wpList_store_arr rfl 57 (.tmp 4) (.tmp 34) rfl rfl rfl HA.out (by kernel_rfl) ?_; intro w2 HA2 HG2))
      refine bodyPost_ret (results_cell_arr rfl _ rfl HA2.out Try.underlying57 (by kernel_rfl)) rfl ?_
      exact ⟨rfl, HB.out.grown HG2.out HB.out.size (fun g hg => by cases hg; simp)⟩
end Co
end Go.Proofs.Ytkeefdlnolcapaa
