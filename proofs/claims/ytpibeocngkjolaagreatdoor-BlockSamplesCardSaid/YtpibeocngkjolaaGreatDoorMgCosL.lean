/- The weights of cosine. | Eight numbers, summed by the weights. -/
import Derived.Test.YtpibeocngkjolaaGreatDoorMgArrB
import Derived.Test.YtpibeocngkjolaaGreatDoorPlCos
import Derived.BigQuiet
import Derived.BigRegion
import Derived.Deep.RegionWith
set_option linter.unusedVariables false
set_option linter.unusedSimpArgs false

namespace Go.Proofs.YtpibeocngkjolaaGreatDoor
open Go.RowKit
namespace Co

theorem quarter_any (w : World) : Calls Tryz.prog 118 #[] w fun e w' => e = .returned (.agg (rowOf .i64 9 tab)) ∧ Below w.heap.size w w' := by
  go_enter Tryz.func118, Tryz.ntmps118
  go_wp2
  refine bodyPost_ret (results_cell_arr rfl _ rfl (Arr.new w .i64 _ _ 9 tab ?_) Tryz.underlying150 (by kernel_rfl)) rfl ?_
  · intro i hi
    rcases (by omega : i = 0 ∨ i = 1 ∨ i = 2 ∨ i = 3 ∨ i = 4 ∨ i = 5 ∨ i = 6 ∨ i = 7 ∨ i = 8) with rfl | rfl | rfl | rfl | rfl | rfl | rfl | rfl | rfl <;> rfl
  · exact ⟨rfl, (Below.refl _ _).alloc (Nat.le_refl _) _⟩
theorem info_int9 : (Tryz.prog.info? 3).map (fun i => i.size) = some 1 := by kernel_rfl
theorem quarter_at (w : World) (K : Int) (j : Nat) (hK : K = j) (hj : j < 9) : (Instr.index 150 (.agg (rowOf .i64 9 tab)) (.int .i64 K)).run Tryz.prog w = .ok (.int .i64 (tab j)) w := by
  subst hK
  cases hq : Tryz.prog.info? 3 with
  | none => have := info_int9; rw [hq] at this; cases this
  | some i => exact run_index_row w Tryz.underlying150 Tryz.underlying3 hq (by have := info_int9; rw [hq] at this; simpa using this) .i64 j hj
theorem turn_small (k : Nat) (hk : k ≤ 16) (w : World) : Calls Tryz.prog 101 #[.int .i64 k] w fun e w' => e = .returned (.int .i64 (cosS k)) ∧ Below w.heap.size w w' := by
  by_cases h8 : k > 8
  · have q1 := fun w' => quarter_at w' (16 - (k : Int)) (16 - k) (by omega) (by omega)
    have tb := tab_bd (16 - k) (by omega)
    have ev : cosS k = -tab (16 - k) := by unfold cosS; rw [if_pos h8]
    have EV := Lib.hid ev
    clear ev
    go_enter Tryz.func101, Tryz.ntmps101
    go_wp2_with (go_at_call 118; refine (quarter_any _).mono ?_; rintro e w1 ⟨rfl, hw⟩)
    go_ret
    exact ⟨by rw [EV.out]; rfl, hw⟩
  · have q1 := fun w' => quarter_at w' (k : Int) k rfl (by omega)
    have ev : cosS k = tab k := by unfold cosS; rw [if_neg h8]
    have EV := Lib.hid ev
    clear ev
    go_enter Tryz.func101, Tryz.ntmps101
    go_wp2_with (go_at_call 118; refine (quarter_any _).mono ?_; rintro e w1 ⟨rfl, hw⟩)
    go_ret
    exact ⟨by rw [EV.out]; rfl, hw⟩
theorem turn_any (k : Nat) (hk : k < 32) (w : World) : Calls Tryz.prog 101 #[.int .i64 k] w fun e w' => e = .returned (.int .i64 (cosT k)) ∧ Below w.heap.size w w' := by
  by_cases h16 : k > 16
  · have ev : cosT k = cosS (32 - k) := by unfold cosT; rw [if_pos h16]
    have e1 : (32 - (k : Int)) = ((32 - k : Nat) : Int) := by omega
    have EV := Lib.hid ev
    have E1 := Lib.hid e1
    clear ev e1
    go_enter Tryz.func101, Tryz.ntmps101
    go_wp2_with (go_at_call 101; rw [E1.out]; refine (turn_small (32 - k) (by omega) _).mono ?_; rintro e w1 ⟨rfl, hw⟩)
    go_ret
    exact ⟨by rw [EV.out]; rfl, hw⟩
  · have ev : cosT k = cosS k := by unfold cosT; rw [if_neg h16]
    rw [ev]
    exact turn_small k (by omega) w

theorem turn_at (K : Int) (k : Nat) (hK : K = k) (hk : k < 32) (w : World) : Calls Tryz.prog 101 #[.int .i64 K] w fun e w' => e = .returned (.int .i64 (cosT k)) ∧ Below w.heap.size w w' := by
  subst hK; exact turn_any k hk w
theorem wt_turn (u x : Nat) (h : u ≠ 0) : cosT ((2 * x + 1) * u % 32) = Wt u x := by unfold Wt; rw [if_neg h]
set_option maxRecDepth 100000 in
set_option maxHeartbeats 2000000 in
/-- all weights, row by row. -/
theorem weights_any (w : World) : Calls Tryz.prog 80 #[] w fun e w' => e = .returned (.agg (rowOf .i64 64 wtF)) ∧ Below w.heap.size w w' := by
  go_enter Tryz.func80, Tryz.ntmps80
  go_wp2
  go_loopw [3] (fun i wr => ∃ u : Nat, u ≤ 8 ∧ i = .int .i64 u ∧ Arr wr .i64 w.heap.size 64 (fun i => if i < 8 * u then wtF i else 0) ∧ Below w.heap.size w wr) (fun i _ => 8 - (intOf i).toNat)
  case atStart => exact ⟨0, by omega, rfl, (Arr.new w .i64 (rowOf .i64 64 (fun _ => 0)) _ 64 (fun _ => 0) (fun i hi => rowOf_get _ _ _ _ hi)).congr (fun i _ => by rw [if_neg (by omega)]), (Below.refl _ _).alloc (Nat.le_refl _) _⟩
  case round =>
    obtain ⟨u, hu, rfl, hA, hB⟩ := hrel
    by_cases hu8 : u < 8
    · obtain ⟨wo, rfl⟩ : ∃ wo : World, wo = wr := ⟨_, rfl⟩
      have HA := Lib.hid hA
      have HB := Lib.hid hB
      have ub : (0 : Int) ≤ (u : Int) ∧ (u : Int) < 8 := by omega
      clear hA hB
      go_wp2
      go_loopw [6] (fun i wr => ∃ x : Nat, x ≤ 8 ∧ i = .int .i64 x ∧ Arr wr .i64 w.heap.size 64 (fun i => if i < 8 * u + x then wtF i else 0) ∧ Below w.heap.size w wr) (fun i _ => 8 - (intOf i).toNat)
      case atStart => exact ⟨0, by omega, rfl, HA.out, HB.out⟩
      case round =>
        obtain ⟨x, hx, rfl, hA, hB⟩ := hrel
        by_cases hx8 : x < 8
        · have cx := hA (u * 8 + x) (by omega)
          have xb : (0 : Int) ≤ (x : Int) ∧ (x : Int) < 8 := by omega
          have hlt := hA.lt (by omega)
          have HA := Lib.hid hA
          have HB := Lib.hid hB
          clear hA hB
          by_cases hu0 : u = 0
          · subst hu0
            have cx : _ ∧ _ := cx
            rw [Nat.zero_mul, Nat.zero_add] at cx
            have ev : Hid ((1448 : Int) = wtF x) := by
              show _ = _
              unfold wtF Wt
              rw [if_pos (by omega)]
            go_wp2
            go_roundw
            case rel => exact ⟨x + 1, by omega, by go_num, (HA.out.set x _).congr (fun i hi => by
              by_cases e : i = x
              · subst e; rw [if_pos rfl, if_pos (by omega)]; exact ev.out
              · rw [if_neg e]
                by_cases e2 : i < 8 * 0 + x
                · rw [if_pos e2, if_pos (by omega)]
                · rw [if_neg e2, if_neg (by omega)]), HB.out.setCell (p := ⟨w.heap.size, x, none⟩) (Nat.le_refl _) _⟩
            case measure => simp [intOf]; omega
          · obtain ⟨p, hp⟩ : ∃ p, p = (2 * x + 1) * u := ⟨_, rfl⟩
            have pb : p ≤ 105 := by rw [hp]; exact Nat.mul_le_mul (show 2 * x + 1 ≤ 15 by omega) (show u ≤ 7 by omega)
            have pe : (2 * (x : Int) + 1) * (u : Int) = (p : Int) := by rw [hp]; push_cast; rfl
            have t1 : (p : Int).tmod 32 = (p : Int) % 32 := Int.tmod_eq_emod_of_nonneg (by omega)
            have ev : Hid (cosT (p % 32) = wtF (u * 8 + x)) := by
              show _ = _
              unfold wtF
              rw [show (u * 8 + x) / 8 = u by omega, show (u * 8 + x) % 8 = x by omega, hp, wt_turn u x hu0]
            have ub2 : 0 < u := by omega
            have w1 : IntKind.i64.wrap (2 * (x : Int)) = 2 * (x : Int) := IntWalk.i64_in _ (by omega)
            have w2 : IntKind.i64.wrap (2 * (x : Int) + 1) = 2 * (x : Int) + 1 := IntWalk.i64_in _ (by omega)
            have w3 : IntKind.i64.wrap (p : Int) = (p : Int) := IntWalk.i64_in _ (by omega)
            have CZ := Lib.hid ((HA.out.set (u * 8 + x) 1448).drew)
            have hlt2 : w.heap.size < (wr.setCell ⟨w.heap.size, u * 8 + x, none⟩ (.int .i64 1448)).drew.heap.size := CZ.out.lt (by omega)
            clear hp
            go_wp2_with fail
            go_region_with (go_at_call 101; refine (turn_at _ (p % 32) (by omega) (by omega) _).mono ?_; rintro e w1 ⟨rfl, hw⟩; have AW := CZ.out.below hw hlt2; have cy := AW (u * 8 + x) (by omega); have AWH := Lib.hid AW; have HW := Lib.hid hw; clear AW hw)
            go_wp2
            go_roundw
            case rel => exact ⟨x + 1, by omega, by go_num, (AWH.out.set (u * 8 + x) _).congr (fun i hi => by
              by_cases e : i = u * 8 + x
              · subst e; rw [if_pos rfl, if_pos (by omega)]; exact ev.out
              · rw [if_neg e, if_neg e]
                by_cases e2 : i < 8 * u + x
                · rw [if_pos e2, if_pos (by omega)]
                · rw [if_neg e2, if_neg (by omega)]), (chain ((HB.out.setCell (p := ⟨w.heap.size, u * 8 + x, none⟩) (Nat.le_refl _) _).drew) HW.out).setCell (p := ⟨w.heap.size, u * 8 + x, none⟩) (Nat.le_refl _) _⟩
            case measure => simp [intOf]; omega
        · have hA8 : Arr wr .i64 w.heap.size 64 (fun i => if i < 8 * (u + 1) then wtF i else 0) := by
            obtain rfl : x = 8 := by omega
            exact hA
          have hx' : 8 ≤ x := by omega
          have HA := Lib.hid hA8
          have HB := Lib.hid hB
          clear hA hB hA8 hx hx8
          go_wp2
          go_roundw
          case rel => exact ⟨u + 1, by omega, by go_num, HA.out, HB.out⟩
          case measure => simp [intOf]; omega
    · have hA' : Arr wr .i64 w.heap.size 64 wtF := by
        obtain rfl : u = 8 := by omega
        exact hA.filled
      have hu' : 8 ≤ u := by omega
      have HA := Lib.hid hA'
      have HB := Lib.hid hB
      clear hA hA' hB hu hu8
      go_wp2_with (first
        | (refine wpList_load_arr rfl 112 (.tmp 0) rfl rfl HA.out Tryz.underlying112 (by kernel_rfl) ?_)
        | (refine wpList_store_arr rfl 112 (.tmp 0) (.tmp 28) rfl rfl rfl HA.out (by kernel_rfl) ?_; intro w2 HA2 HG2))
      refine bodyPost_ret (results_cell_arr rfl _ rfl HA2.out Tryz.underlying112 (by kernel_rfl)) rfl ?_
      exact ⟨rfl, HB.out.grown HG2.out HB.out.size (fun g hg => by cases hg; exact Nat.le_refl _)⟩

/-- a place of the table of weights? -/
def wE (u x : Int) : Int := if u < 0 ∨ 7 < u ∨ x < 0 ∨ 7 < x then 3 else 0
def wV (u x : Int) : Int := if u < 0 ∨ 7 < u ∨ x < 0 ∨ 7 < x then 0 else Wt u.toNat x.toNat
end Co
end Go.Proofs.YtpibeocngkjolaaGreatDoor

namespace Go.Proofs.YtpibeocngkjolaaGreatDoor
open Go.RowKit
namespace Co

/-- a sum by weights, as a machine comes to it. -/
def accW (l : Nat → Int) (x : Nat) : Nat → Int
  | 0 => 0
  | u + 1 => if l u = 0 then accW l x u else wrap64 (accW l x u + wrap64 (wtF (u * 8 + x) * l u))
theorem accW_zero {l : Nat → Int} {u : Nat} (h : l u = 0) (x : Nat) : accW l x (u + 1) = accW l x u := by simp only [accW]; rw [if_pos h]
theorem accW_not {l : Nat → Int} {u : Nat} (h : l u ≠ 0) (x : Nat) : accW l x (u + 1) = wrap64 (accW l x u + wrap64 (wtF (u * 8 + x) * l u)) := by simp only [accW]; rw [if_neg h]
theorem wtF_at (u x : Nat) (hx : x < 8) : wtF (u * 8 + x) = Wt u x := by
  unfold wtF
  rw [show (u * 8 + x) / 8 = u by omega, show (u * 8 + x) % 8 = x by omega]
/-- of numbers within bounds it is the sum. -/
theorem accW_sum (l : Nat → Int) (B : Int) (hB : 0 ≤ B ∧ B ≤ 1099511627776) (hl : ∀ u, u < 8 → -B ≤ l u ∧ l u ≤ B) (x : Nat) (hx : x < 8) : ∀ n, n ≤ 8 → accW l x n = sumN n (fun u => Wt u x * l u)
  | 0, _ => rfl
  | n + 1, hn => by
    have ih := accW_sum l B hB hl x hx n (by omega)
    have b1 := part_bd l B hl n x (by omega) hx
    have b2 := mul_bd _ _ _ _ (Wt_bd n x (by omega) hx) (hl n (by omega))
    have b3 : (n : Int) * (2048 * B) ≤ 8 * (2048 * B) := Int.mul_le_mul_of_nonneg_right (by omega) (by omega)
    simp only [sumN]
    by_cases h : l n = 0
    · rw [accW_zero h, ih, h]; omega
    · rw [accW_not h, ih, wtF_at n x hx, IntWalk.wrap64_in (Wt n x * l n) (by omega), IntWalk.wrap64_in _ (by omega)]

set_option maxRecDepth 100000 in
set_option maxHeartbeats 2000000 in
theorem line_any (l : Nat → Int) (gw : Nat) (w : World) (hW : Arr w .i64 gw 64 wtF) :
    Calls Tryz.prog 103 #[.agg (rowOf .i64 8 l), .pointer (some ⟨gw, 0, none⟩)] w fun e w' => e = .returned (.agg (rowOf .i64 8 (fun x => accW l x 8))) ∧ Below w.heap.size w w' := by
  have glt := hW.lt (by omega)
  have HW := Lib.hid hW
  have M1 := Lib.hid ((Arr.new w .i64 (rowOf .i64 8 l) 111 8 l (fun i hi => rowOf_get _ _ _ _ hi)).alloc (.cells (rowOf .i64 8 (fun _ => 0)) 111))
  have M2 := Arr.new (w.alloc (.cells (rowOf .i64 8 l) 111)) .i64 (rowOf .i64 8 (fun _ => 0)) 111 8 (fun _ => 0) (fun i hi => rowOf_get _ _ _ _ hi)
  rw [World.size_alloc] at M2
  have M2 := Lib.hid M2
  clear hW
  go_enter Tryz.func103, Tryz.ntmps103
  go_wp2_with (refine wpList_load_arr rfl 111 (.tmp 2) rfl rfl M1.out Tryz.underlying111 (by kernel_rfl) ?_)
  have hgN : gw ≠ w.heap.size + 1 := by omega
  go_loopw [9] (fun i wr => ∃ u : Nat, u ≤ 8 ∧ i = .int .i64 u ∧ Arr wr .i64 (w.heap.size + 1) 8 (fun x => accW l x u) ∧ Below w.heap.size w wr) (fun i _ => 8 - (intOf i).toNat)
  case atStart => exact ⟨0, by omega, rfl, M2.out.congr (fun i _ => rfl), ((Below.refl _ _).alloc (Nat.le_refl _) _).alloc (by simp) _⟩
  case round =>
    obtain ⟨u, hu, rfl, hA, hB⟩ := hrel
    by_cases hu8 : u < 8
    · have ub : (0 : Int) ≤ (u : Int) ∧ (u : Int) < 8 := by omega
      have ix := fun w' => run_index_num (P := Tryz.prog) w' (k := .i64) (f := l) (n := 8) Tryz.underlying111 Tryz.underlying3 (by kernel_rfl) .i64 u (u : Int) rfl hu8
      by_cases h0 : l u = 0
      · have kd : (l u == 0) = true := by simp [h0]
        have HA : Hid (Arr wr .i64 (w.heap.size + 1) 8 (fun x => accW l x (u + 1))) := Lib.hid (hA.congr fun x _ => (accW_zero h0 x).symm)
        have HB := Lib.hid hB
        clear hA hB
        go_wp2
        go_roundw
        case rel => exact ⟨u + 1, by omega, by go_num, HA.out, HB.out⟩
        case measure => simp [intOf]; omega
      · have kd : (l u == 0) = false := by simp [h0]
        obtain ⟨wo, rfl⟩ : ∃ wo : World, wo = wr := ⟨_, rfl⟩
        have WO := Lib.hid (HW.out.below hB glt)
        have HA := Lib.hid hA
        have HB := Lib.hid hB
        have hlt := hA.lt (by omega)
        clear hA hB
        go_wp2
        go_loopw [15] (fun i wr => ∃ x : Nat, x ≤ 8 ∧ i = .int .i64 x ∧ Arr wr .i64 (w.heap.size + 1) 8 (fun i => if i < x then accW l i (u + 1) else accW l i u) ∧ Arr wr .i64 gw 64 wtF ∧ Below w.heap.size w wr) (fun i _ => 8 - (intOf i).toNat)
        case atStart => exact ⟨0, by omega, rfl, HA.out.congr (fun i _ => by rw [if_neg (by omega)]), WO.out, HB.out⟩
        case round =>
          obtain ⟨x, hx, rfl, hA, hG, hB⟩ := hrel
          by_cases hx8 : x < 8
          · have cx := hA x hx8
            simp only [Nat.lt_irrefl, if_false] at cx
            obtain ⟨cx1, cx2⟩ := cx
            have cg := (hG (u * 8 + x) (by omega)).1
            have xb : (0 : Int) ≤ (x : Int) ∧ (x : Int) < 8 := by omega
            have ev := Lib.hid (accW_not h0 x)
            have HA := Lib.hid hA
            have HG := Lib.hid hG
            have HB := Lib.hid hB
            clear hA hB hG
            go_wp2_with fail
            go_region
            go_wp2
            go_roundw
            case rel => exact ⟨x + 1, by omega, by go_num, (HA.out.fill _ ev.out.symm).drew, (HG.out.far (a := ⟨w.heap.size + 1, x, none⟩) hgN.symm _).drew, (HB.out.setCell (p := ⟨w.heap.size + 1, x, none⟩) (by simp) _).drew⟩
            case measure => simp [intOf]; omega
          · have hA8 : Arr wr .i64 (w.heap.size + 1) 8 (fun i => accW l i (u + 1)) := by
              obtain rfl : x = 8 := by omega
              exact hA.filled
            have hx' : 8 ≤ x := by omega
            have HA := Lib.hid hA8
            have HB := Lib.hid hB
            clear hA hB hG hA8 hx hx8
            go_wp2
            go_roundw
            case rel => exact ⟨u + 1, by omega, by go_num, HA.out, HB.out⟩
            case measure => simp [intOf]; omega
    · have hA' : Arr wr .i64 (w.heap.size + 1) 8 (fun x => accW l x 8) := by
        obtain rfl : u = 8 := by omega
        exact hA
      have hu' : 8 ≤ u := by omega
      have HA := Lib.hid hA'
      have HB := Lib.hid hB
      clear hA hA' hB hu hu8
      go_wp2_with (first
        | (refine wpList_load_arr rfl 111 (.tmp 4) rfl rfl HA.out Tryz.underlying111 (by kernel_rfl) ?_)
        | (refine wpList_store_arr rfl 111 (.tmp 4) (.tmp 34) rfl rfl rfl HA.out (by kernel_rfl) ?_; intro w2 HA2 HG2))
      refine bodyPost_ret (results_cell_arr rfl _ rfl HA2.out Tryz.underlying111 (by kernel_rfl)) rfl ?_
      exact ⟨rfl, HB.out.grown HG2.out HB.out.size (fun g hg => by cases hg; simp)⟩
end Co
end Go.Proofs.YtpibeocngkjolaaGreatDoor
