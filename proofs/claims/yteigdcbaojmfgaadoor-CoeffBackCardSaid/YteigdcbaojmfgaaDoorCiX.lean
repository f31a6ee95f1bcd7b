/- The kit's Bits. -/
import Derived.Test.YteigdcbaojmfgaaDoorCiW
import Derived.Test.YteigdcbaojmfgaaDoorChC
namespace Go.Proofs.YteigdcbaojmfgaaDoor
open Go.RowKit
set_option linter.unusedSimpArgs false
set_option linter.unusedVariables false
namespace Cf
theorem made_arrB {w : World} {base g N : Nat} {e : TypeId} {k : IntKind} (h : w.ownsRow base e 1 (.slice (some ⟨g, 0, none⟩) N N) N (madeCells (Value.int k 0).cells (N * 1)).toList) : Arr w k g N (fun _ => 0) := by
  have hc := fun j u hu => World.ownsRow.cells h (g := g) rfl j u hu
  rcases h.2 with ⟨h0, _⟩ | ⟨g', cap, cur, h1, h2, h3, h4⟩
  · cases h0
  · cases h1
    intro i hi
    have h5 := hc i (.int k 0) (by simp [madeCells, Value.cells, hi, Nat.mod_one])
    rw [show (⟨g, 0, none⟩ : Addr).add i = ⟨g, i, none⟩ by unfold Addr.add; split <;> simp_all] at h5
    exact ⟨h5, frozen_of_row h3 i⟩
def BitsTo (w : World) (n : Nat) (f : Nat → Int) (e : Ending) (w' : World) : Prop :=
  ∃ g, e = .returned (.slice (some ⟨g, 0, none⟩) ((n + 7) / 8) ((n + 7) / 8)) ∧ Arr w' .u8 g ((n + 7) / 8) (byV f n) ∧ g < w'.heap.size ∧ w.heap.size ≤ g ∧ Below w.heap.size w w'
section
set_option maxRecDepth 100000
set_option maxHeartbeats 4000000
theorem Bits_any (v : Value) (n : Nat) (f : Nat → Int) (w : World) (hn : n ≤ 100000) (hs : Sl .i64 w v n f) :
    Calls Tryd.prog 41 #[v] w (BitsTo w n f) := by
  obtain ⟨i0, hi, hz0, hz1, hz2⟩ := info_parts info_u8
  have HS := Lib.hid hs
  obtain ⟨a, c, rfl, hnc, hcm, hd⟩ := hs
  obtain ⟨N, hN⟩ : ∃ N, (n + 7) / 8 = N := ⟨_, rfl⟩
  have hq : ((n : Int) + 7) / 8 = (N : Int) := by omega
  have hq2 : Int.tdiv ((n : Int) + 7) 8 = (N : Int) := by rw [Int.tdiv_eq_ediv_of_nonneg (by omega)]; exact hq
  obtain ⟨w1, h1, h2, h3⟩ := run_make_full (P := Tryd.prog) w w.heap.size 22 5 i0 (.int .u8 0) 1 Tryd.underlying22 hi hz0 hz1 .i64 .i64 N (by rw [hz2]; omega) (by unfold maxLen; omega) (Nat.le_refl _)
  have HM := Lib.hid (made_arrB h2)
  have HB0 := Lib.hid ((Below.refl w.heap.size w).grown h3 (Nat.le_refl _) (fun _ e => by cases e))
  have hlt : w.heap.size < w1.heap.size := by
    rcases h2.2 with ⟨h0, _⟩ | ⟨g', cap, cur, h1, _, h3, _⟩
    · cases h0
    · cases h1
      exact (Array.getElem?_eq_some_iff.1 h3).1
  have HN := Lib.hid hN
  have nb : (n : Int) ≤ 100000 := by omega
  clear h2 h3 hN hd
  unfold BitsTo
  rw [HN.out]
  go_enter Tryd.func41, Tryd.ntmps41
  go_wp2_with fail
  clear h1
  go_loopw [4] (fun i wr => ∃ k : Nat, k ≤ n ∧ i = .int .i64 k ∧ Hid (Arr wr .u8 w.heap.size N (byV f k)) ∧ Hid (Below w.heap.size w wr) ∧ w.heap.size < wr.heap.size) (fun i _ => n - (intOf i).toNat)
  case atStart => exact ⟨0, by omega, rfl, Lib.hid (HM.out.congr (fun i _ => (byV_0 f i).symm)), HB0, hlt⟩
  case round =>
    obtain ⟨k, hk, rfl, HA, HB, hl⟩ := hrel
    by_cases hkn : k < n
    · have t1 : (k : Int) < (n : Int) := by omega
      have t0 : (0 : Int) ≤ (k : Int) := by omega
      have hs2 := HS.out.below HB.out
      obtain ⟨a2, c2, hv, _, _, hd2⟩ := hs2
      rcases hd2 with ⟨h, _⟩ | ⟨b, o, ha, hbl, hI⟩
      · omega
      subst ha
      injection hv with hv1 hv2 hv3
      subst hv1
      have cF := hI k hkn
      have HF := Lib.hid (rfl : f k = f k)
      obtain ⟨x, hx⟩ : ∃ x, f k = x := ⟨_, rfl⟩
      rw [hx] at cF
      have HX := Lib.hid hx
      clear hx hI hv2 hv3 hbl
      have htm : Int.tmod x 2 = 0 ↔ x % 2 = 0 := by
        rw [Int.dvd_iff_tmod_eq_zero.symm, Int.dvd_iff_emod_eq_zero]
      by_cases hev : x % 2 = 0
      · have e1 : Int.tmod x 2 = 0 := htm.2 hev
        have HE := Lib.hid (byV_even (f := f) (k := k) (by rw [HX.out]; exact hev))
        clear htm hev
        go_wp2_with fail
        go_roundw
        case rel => exact ⟨k + 1, by omega, by go_num, Lib.hid (HA.out.congr (fun j _ => (HE.out j).symm)), HB, hl⟩
        case measure => simp [intOf]; omega
      · have e1 : (Int.tmod x 2 == 0) = false := by rw [beq_eq_false_iff_ne]; exact fun h => hev (htm.1 h)
        have e2 : (Int.tmod x 2 != 0) = true := by simp; exact fun h => hev (htm.1 h)
        have HO := Lib.hid (byV_odd (f := f) (k := k) (by rw [HX.out]; omega))
        obtain ⟨q, hqk⟩ : ∃ q, k / 8 = q := ⟨_, rfl⟩
        obtain ⟨r, hrk⟩ : ∃ r, k % 8 = r := ⟨_, rfl⟩
        have hkq : k = 8 * q + r := by omega
        have hr8 : r < 8 := by omega
        have d1 : (k : Int) / 8 = (q : Int) := by omega
        have d2 : Int.tdiv (k : Int) 8 = (q : Int) := by rw [Int.tdiv_eq_ediv_of_nonneg t0]; exact d1
        have hqN : q < N := by have := HN.out; omega
        have q0 : (0 : Int) ≤ (q : Int) := by omega
        have q1 : (q : Int) < (N : Int) := by omega
        have OR := byV_or f k q r hkq hr8
        have bd := byV_bd f k q
        have cA := (HA.out q hqN).1
        have fA := (HA.out q hqN).2
        have m1 : (k : Int) % 8 = (r : Int) := by omega
        have m2 : Int.tmod (k : Int) 8 = (r : Int) := by rw [Int.tmod_eq_emod_of_nonneg t0]; exact m1
        rw [hqk, hrk] at HO
        have HNX : Hid (∀ V, V = wr.setCell ⟨w.heap.size, q, none⟩ (.int .u8 (byV f k q + 2 ^ (7 - r))) → Arr V .u8 w.heap.size N (byV f (k + 1)) ∧ Below w.heap.size w V ∧ w.heap.size < V.heap.size) := Lib.hid fun V hV => by
          subst hV
          refine ⟨(HA.out.set q _).congr (fun j _ => ?_), HB.out.setCell (p := ⟨w.heap.size, q, none⟩) (Nat.le_refl _) _, by simpa using hl⟩
          rw [HO.out j]
          by_cases e : j = q
          · subst e; simp
          · rw [if_neg e, if_neg e]
        obtain ⟨y, hy⟩ : ∃ y, byV f k q = y := ⟨_, rfl⟩
        rw [hy] at OR bd cA HNX
        have y0 := bd.1
        have y1 := bd.2
        have HQK := Lib.hid hqk
        clear htm hev hqk hrk hkq hy bd HO hk HX HF
        rcases (by omega : r = 0 ∨ r = 1 ∨ r = 2 ∨ r = 3 ∨ r = 4 ∨ r = 5 ∨ r = 6 ∨ r = 7) with rfl | rfl | rfl | rfl | rfl | rfl | rfl | rfl
        all_goals
          simp only [Nat.reduceSub, Int.reducePow, Int.ofNat_zero, Int.cast_ofNat_Int] at OR HNX m1 m2
          clear hr8
          go_wp2_with fail
          go_roundw
          case rel =>
            have G := HNX.out _ rfl
            exact ⟨k + 1, by omega, by go_num, Lib.hid G.1, Lib.hid G.2.1, G.2.2⟩
          case measure => simp [intOf]; omega
    · obtain rfl : k = n := by omega
      have t1 : ¬ (k : Int) < (k : Int) := by omega
      go_wp2_with fail
      go_ret
      exact ⟨w.heap.size, rfl, HA.out, hl, Nat.le_refl _, HB.out⟩
end
end Cf
end Go.Proofs.YteigdcbaojmfgaaDoor
