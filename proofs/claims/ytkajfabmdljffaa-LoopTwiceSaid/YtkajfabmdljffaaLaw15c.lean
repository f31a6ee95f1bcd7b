/- LoopKnown: the chapter's examples. -/
import Derived.Test.YtkajfabmdljffaaLaw15b
namespace Go.Proofs.Ytkajfabmdljffaa
open Go.RowKit
namespace Lo

theorem lit_sl {w : World} {k : IntKind} (cs : Array Value) (t : TypeId) (n : Nat) (g : Nat → Int) (hn : n ≤ 1000) (h : ∀ i, i < n → cs[i]? = some (.int k (g i))) : Sl k (w.alloc (.cells cs t)) (.slice (some ⟨w.heap.size, 0, none⟩) n n) n g :=
  ⟨_, n, rfl, Nat.le_refl _, by unfold maxLen; omega, .inr ⟨w.heap.size, 0, rfl, by simp, (Arr.new w k cs t n g h).ints⟩⟩
def q1 (i : Nat) : Int := [(4 : Int), 8, 4, 0, 0, 0, 0, 16].getD i 0
def q2 (i : Nat) : Int := [(16 : Int), 24, 16, 4, 0, 0, 16, 64].getD i 0
def q3 (i : Nat) : Int := [(1 : Int), 2, 3].getD i 0
theorem q_ex : ∀ i, i < 8 → sft q1 i = q2 i := by decide
theorem q1_e : sE 8 q1 = 0 := by decide +kernel
theorem q1_n : sN 8 q1 = 8 := by decide +kernel
theorem q3_e : sE 3 q3 = 2 := by decide
theorem q3_bd : ∀ i, 0 ≤ q3 i ∧ q3 i ≤ 255 := getD_bd _ (by decide)
theorem q1_c (i : Nat) (h : i < 8) : (#[.int .i64 4, .int .i64 8, .int .i64 4, .int .i64 0, .int .i64 0, .int .i64 0, .int .i64 0, .int .i64 16] : Array Value)[i]? = some (.int .i64 (q1 i)) := by
  rcases (by omega : i = 0 ∨ i = 1 ∨ i = 2 ∨ i = 3 ∨ i = 4 ∨ i = 5 ∨ i = 6 ∨ i = 7) with rfl | rfl | rfl | rfl | rfl | rfl | rfl | rfl <;> rfl
theorem q2_c (i : Nat) (h : i < 8) : (#[.int .i64 16, .int .i64 24, .int .i64 16, .int .i64 4, .int .i64 0, .int .i64 0, .int .i64 16, .int .i64 64] : Array Value)[i]? = some (.int .i64 (q2 i)) := by
  rcases (by omega : i = 0 ∨ i = 1 ∨ i = 2 ∨ i = 3 ∨ i = 4 ∨ i = 5 ∨ i = 6 ∨ i = 7) with rfl | rfl | rfl | rfl | rfl | rfl | rfl | rfl <;> rfl
theorem q3_c (k : IntKind) (i : Nat) (h : i < 3) : (#[.int k 1, .int k 2, .int k 3] : Array Value)[i]? = some (.int k (q3 i)) := by
  rcases (by omega : i = 0 ∨ i = 1 ∨ i = 2) with rfl | rfl | rfl <;> rfl

set_option maxRecDepth 100000 in
set_option maxHeartbeats 1000000 in
theorem known_true (w : World) : Calls Try.prog 11 #[] w fun e w' => e = .returned (.bool true) ∧ Below w.heap.size w w' := by
  go_enter Try.func11, Try.ntmps11
  go_wp2_with fail
  refine (Soften_any _ 8 q1 _ (lit_sl _ _ 8 q1 (by decide) q1_c)).mono ?_
  rintro e w1 ⟨v1, rfl, hR, hB⟩
  rw [q1_e]
  rw [q1_n] at hR
  have R1 := Lib.hid hR
  have HB := Lib.hid (below_new (Below.refl w.heap.size w) hB)
  clear hR hB
  go_wp2_with fail
  refine (Soften_any _ 3 q3 _ (lit_sl _ _ 3 q3 (by decide) (q3_c .i64))).mono ?_
  rintro e w2 ⟨v2, rfl, hR, hB⟩
  rw [q3_e]
  have hB' := below_new (Below.refl w1.heap.size w1) hB
  have R1 := Lib.hid (R1.out.below hB')
  have HB := Lib.hid (chain HB.out hB')
  clear hR hB hB'
  go_wp2_with fail
  refine (Filter_any _ 3 q3 _ (lit_sl _ _ 3 q3 (by decide) (q3_c .u8)) q3_bd).mono ?_
  rintro e w3 ⟨v3, rfl, hR, hB⟩
  rw [show fE 3 = 2 from rfl]
  have hB' := below_new (Below.refl w2.heap.size w2) hB
  have R1 := Lib.hid (R1.out.below hB')
  have HB := Lib.hid (chain HB.out hB')
  clear hR hB hB'
  go_wp2_with fail
  refine (awake_true _).mono ?_
  rintro e w4 ⟨rfl, hB⟩
  have R1 := Lib.hid (R1.out.below hB)
  have HB := Lib.hid (chain HB.out hB)
  clear hB
  go_wp2_with fail
  refine (SameInts_true _ _ 8 (sft q1) q2 _ (by decide) (R1.out.below ((Below.refl w4.heap.size w4).alloc (Nat.le_refl _) _)).sl (lit_sl _ _ 8 q2 (by decide) q2_c) q_ex).mono ?_
  rintro e w5 ⟨rfl, hB⟩
  have HB := Lib.hid (below_new HB.out hB)
  clear hB
  go_wp2_with fail
  go_ret
  exact ⟨rfl, HB.out⟩
end Lo
end Go.Proofs.Ytkajfabmdljffaa
