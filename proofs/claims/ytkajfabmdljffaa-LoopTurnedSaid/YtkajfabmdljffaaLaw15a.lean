/- The small functions of the statements on the loop filter. -/
import Derived.Test.YtkajfabmdljffaaLoopE
import Derived.Test.YtkajfabmdljffaaBytes
import Derived.StillTailTactics
namespace Go.Proofs.Ytkajfabmdljffaa
open Go.RowKit
namespace Lo

/-- a fresh block of 64 bytes. -/
def Fresh64 (w : World) (f : Nat → Int) (e : Ending) (w' : World) : Prop :=
  ∃ g c, e = .returned (.slice (some ⟨g, 0, none⟩) 64 c) ∧ w.heap.size ≤ g ∧ g < w'.heap.size ∧ 64 ≤ c ∧ c ≤ maxLen ∧ Arr w' .u8 g 64 f ∧ Below w.heap.size w w'

set_option maxRecDepth 100000 in
theorem even_any (x : Int) (w : World) : Calls Try.prog 52 #[.int .u8 x] w (Fresh64 w (fun _ => x)) := by
  have hmk := make64b
  have M0 := Lib.hid (made w .u8 5 64 (fun _ => 0))
  go_enter Try.func52, Try.ntmps52
  go_wp2
  clear hmk
  go_loopw [4] (fun i wr => ∃ k : Nat, k ≤ 64 ∧ i = .int .i64 k ∧ Arr wr .u8 w.heap.size 64 (fun i => if i < k then x else 0) ∧ Below w.heap.size w wr) (fun i _ => 64 - (intOf i).toNat)
  case atStart => exact ⟨0, by omega, rfl, M0.out.start, (Below.refl _ _).alloc (Nat.le_refl _) _⟩
  case round =>
    obtain ⟨k, hk, rfl, hA, hB⟩ := hrel
    by_cases hk64 : k < 64
    · have ck := hA k hk64
      have HA := Lib.hid hA
      have HB := Lib.hid hB
      clear hA hB
      go_wp2
      go_roundw
      case rel => exact ⟨k + 1, by omega, by go_num, HA.out.fill x rfl, HB.out.setCell (Nat.le_refl _) _⟩
      case measure => simp [intOf]; omega
    · have hA' : Arr wr .u8 w.heap.size 64 (fun _ => x) := by
        obtain rfl : k = 64 := by omega
        exact hA.filled
      have HA := Lib.hid hA'
      have HB := Lib.hid hB
      have hk' : 64 ≤ k := by omega
      clear hA hA' hB hk hk64
      go_wp2
      go_ret
      exact ⟨_, _, rfl, Nat.le_refl _, HA.out.lt (by decide), Nat.le_refl _, by decide, HA.out, HB.out⟩

theorem far_cell {w : World} {b N k o : Nat} {u v : Value} (hne : b ≠ N) (h : w.cell? ⟨b, o, none⟩ = some v) : (w.setCell ⟨N, k, none⟩ u).cell? ⟨b, o, none⟩ = some v :=
  (World.cell?_of_block (a := ⟨b, o, none⟩) (Below.heap_setCell w ⟨N, k, none⟩ u b hne)).trans h
/-- noughts, and bytes at places, of k pairs. -/
def someF (g : Nat → Int) : Nat → Nat → Int
  | 0, _ => 0
  | k + 1, j => if j = (g (2 * k)).toNat % 64 then g (2 * k + 1) else someF g k j

set_option maxRecDepth 100000 in
set_option maxHeartbeats 1000000 in
theorem some_any (b m c : Nat) (g : Nat → Int) (w : World) (hI : Ints w .u8 b 0 (2 * m) g) (hg : ∀ i, 0 ≤ g i ∧ g i ≤ 255) (hm : m ≤ 1000) :
    Calls Try.prog 53 #[.slice (some ⟨b, 0, none⟩) (2 * m) c] w (Fresh64 w (someF g m)) := by
  have hmk := make64b
  have M0 := Lib.hid (made w .u8 5 64 (fun _ => 0))
  have H := Lib.hid hI
  have HG := Lib.hid hg
  clear hI hg
  go_enter Try.func53, Try.ntmps53
  go_wp2
  clear hmk
  go_loopw [4] (fun i wr => ∃ k : Nat, k ≤ m ∧ i = .int .i64 (2 * (k : Int)) ∧ Arr wr .u8 w.heap.size 64 (someF g k) ∧ Below w.heap.size w wr) (fun i _ => 2 * m - (intOf i).toNat)
  case atStart => exact ⟨0, by omega, rfl, M0.out.congr (fun i _ => rfl), (Below.refl _ _).alloc (Nat.le_refl _) _⟩
  case round =>
    obtain ⟨k, hk, rfl, hA, hB⟩ := hrel
    by_cases hkm : k < m
    · have hblt := H.out.lt (by omega)
      have c1 := (H.out.below hB hblt).at (2 * k) (by omega)
      have c2 := (H.out.below hB hblt).at (2 * k + 1) (by omega)
      have g1 := HG.out (2 * k)
      have g2 := HG.out (2 * k + 1)
      obtain ⟨x, hx⟩ : ∃ x : Nat, g (2 * k) = (x : Int) := ⟨(g (2 * k)).toNat, by omega⟩
      have x64 : x % 64 < 64 := Nat.mod_lt _ (by omega)
      have co := hA (x % 64) x64
      rw [hx] at c1 g1
      rw [Nat.zero_add] at c1 c2
      have HX := Lib.hid hx
      have HA := Lib.hid hA
      have HB := Lib.hid hB
      clear hA hB hx
      have hne : b ≠ w.heap.size := by omega
      have y1 : ((x : Int) % 64).toNat = x % 64 := by omega
      have y2 : (2 * (k : Int)).toNat = 2 * k := by omega
      have y3 : (2 * (k : Int) + 1).toNat = 2 * k + 1 := by omega
      have q1 : (0 : Int) ≤ (x : Int) % 64 := by omega
      have q2 : (x : Int) % 64 < 64 := by omega
      have q3 : (0 : Int) ≤ 2 * (k : Int) := by omega
      have q4 : 2 * (k : Int) < 2 * (m : Int) := by omega
      have q5 : (0 : Int) ≤ 2 * (k : Int) + 1 := by omega
      have q6 : 2 * (k : Int) + 1 < 2 * (m : Int) := by omega
      have x1 : IntKind.i64.wrap (2 * (k : Int) + 1) = 2 * (k : Int) + 1 := IntWalk.i64_in _ (by omega)
      have t1 : (x : Int).tmod 64 = (x : Int) % 64 := Int.tmod_eq_emod_of_nonneg (by omega)
      have x2 : IntKind.u8.wrap ((x : Int) % 64) = (x : Int) % 64 := IntWalk.u8_in _ (by omega)
      go_wp2
      go_region_held3 (fun w' => w'.cell? ⟨b, 2 * k, none⟩ = some (.int .u8 (x : Int)) ∧ w'.cell? ⟨b, 2 * k + 1, none⟩ = some (.int .u8 (g (2 * k + 1))))
        (first
          | exact ⟨c1, c2⟩
          | exact ⟨far_cell hne c1, far_cell hne c2⟩)
        (fail)
      go_wp2
      go_roundw
      case rel =>
        refine ⟨k + 1, by omega, by go_num, (HA.out.set (x % 64) _).congr (fun i _ => ?_), (HB.out.setCell (p := ⟨w.heap.size, x % 64, none⟩) (Nat.le_refl _) _).drew⟩
        simp only [someF, HX.out, Int.toNat_natCast]
      case measure => simp [intOf]; omega
    · have hA' : Arr wr .u8 w.heap.size 64 (someF g m) := by
        obtain rfl : k = m := by omega
        exact hA
      have HA := Lib.hid hA'
      have HB := Lib.hid hB
      have hk' : m ≤ k ∧ k ≤ 1000 := by omega
      clear hA hA' hB hk hkm
      go_wp2
      go_ret
      exact ⟨_, _, rfl, Nat.le_refl _, HA.out.lt (by decide), Nat.le_refl _, by decide, HA.out, HB.out⟩

/-- is a block filtered to just that? -/
theorem filters_true (v1 v2 : Value) (f g : Nat → Int) (w : World) (h1 : Sl .u8 w v1 64 f) (h2 : Sl .u8 w v2 64 g) (hf : ∀ i, 0 ≤ f i ∧ f i ≤ 255) (hfg : ∀ i, i < 64 → filt f i = g i) :
    Calls Try.prog 51 #[v1, v2] w fun e w' => e = .returned (.bool true) ∧ Below w.heap.size w w' := by
  have H1 := Lib.hid h1
  have H2 := Lib.hid h2
  have HF := Lib.hid hf
  have HG := Lib.hid hfg
  clear h1 h2 hf hfg
  go_enter Try.func51, Try.ntmps51
  go_wp2_with fail
  refine (Filter_any v1 64 f w H1.out HF.out).mono ?_
  rintro e w1 ⟨v, rfl, hR, hB⟩
  have e1 : fE 64 = 0 := rfl
  have e2 : fN 64 = 64 := rfl
  rw [e1]
  rw [e2] at hR
  have HR := Lib.hid hR
  have HB := Lib.hid hB
  clear hR hB e1 e2
  go_wp2_with (go_at_call 40; refine (SameBytes_true _ _ 64 (filt f) g _ HR.out.sl (H2.out.below HB.out) HG.out).mono ?_; rintro e w2 ⟨rfl, rfl⟩)
  go_ret
  exact ⟨rfl, HB.out⟩
end Lo
end Go.Proofs.Ytkajfabmdljffaa
