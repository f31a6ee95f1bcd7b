/- The statements on the transform: what examples share; the chapter's examples. -/
import Derived.Test.YtkeefdlnolcapaaCosQ
import Derived.Test.YtkeefdlnolcapaaSlices
import Derived.StillTailTactics
namespace Go.Proofs.Ytkeefdlnolcapaa
open Go.RowKit
namespace Co

theorem weighs_true (u x want err : Int) (w : World) (h1 : wV u x = want) (h2 : wE u x = err) :
    Calls Try.prog 27 #[.int .i64 u, .int .i64 x, .int .i64 want, .int .i64 err] w fun e w' => e = .returned (.bool true) ∧ Below w.heap.size w w' := by
  have H1 := Lib.hid h1
  have H2 := Lib.hid h2
  clear h1 h2
  go_enter Try.func27, Try.ntmps27
  go_wp2_with fail
  refine (Weight_any u x _).mono ?_
  rintro e w1 ⟨rfl, hw⟩
  rw [H1.out, H2.out]
  go_wp2_with fail
  go_ret
  exact ⟨rfl, hw⟩
def flatF (n : Int) (i : Nat) : Int := if i = 0 then n else 0
theorem flatF_ok (n : Int) (h : -2048 ≤ n ∧ n ≤ 2047) : okV (flatF n) 64 = true := okR_all fun i _ => by unfold flatF; split <;> omega
theorem set0_get (n : Int) (i : Nat) (hi : i < 64) : ((rowOf .i64 64 fun _ => 0).setIfInBounds 0 (.int .i64 n))[i]? = some (.int .i64 (flatF n i)) := by
  unfold flatF
  by_cases h : i = 0
  · subst h; simp [rowOf]
  · rw [Array.getElem?_setIfInBounds_ne (by omega), if_neg h]
    exact rowOf_get _ _ _ _ hi
theorem vE_ok {f : Nat → Int} (h : okV f 64 = true) : vE 64 f = 0 := by unfold vE; rw [if_pos rfl, h]; rfl
theorem vN_ok {f : Nat → Int} (h : okV f 64 = true) : vN 64 f = 64 := by unfold vN; rw [if_pos rfl, h]; rfl
set_option maxRecDepth 100000 in
theorem flat_true (n want : Int) (w : World) (hn : -2048 ≤ n ∧ n ≤ 2047) (hv : ∀ i, i < 64 → invC (flatF n) i = want) :
    Calls Try.prog 28 #[.int .i64 n, .int .i64 want] w fun e w' => e = .returned (.bool true) ∧ Below w.heap.size w w' := by
  have HV := Lib.hid hv
  have EO := Lib.hid (vE_ok (flatF_ok n hn))
  have NO := Lib.hid (vN_ok (flatF_ok n hn))
  have hmk := make64c
  have MA := Lib.hid (Arr.new w .i64 ((rowOf .i64 64 fun _ => 0).setIfInBounds 0 (.int .i64 n)) 3 64 (flatF n) (set0_get n))
  have HB := Lib.hid ((Below.refl w.heap.size w).alloc (Nat.le_refl _) (.cells ((rowOf .i64 64 fun _ => 0).setIfInBounds 0 (.int .i64 n)) 3))
  have hlt := MA.out.lt (by omega)
  clear hv
  go_enter Try.func28, Try.ntmps28
  go_wp2_with fail
  clear hmk
  refine (Inverse_any _ 64 (flatF n) _ ⟨_, 64, rfl, Nat.le_refl _, by decide, .inr ⟨w.heap.size, 0, rfl, hlt, MA.out.ints⟩⟩).mono ?_
  rintro e w1 ⟨va, rfl, hR, b1⟩
  rw [EO.out]
  rw [NO.out] at hR
  rcases hR with ⟨h0, _⟩ | ⟨g, c, rfl, r1, r2, r3, r4, r5⟩
  · exact absurd h0 (by decide)
  have RA := Lib.hid r5
  have HB := Lib.hid (chain HB.out b1)
  clear r5 b1 MA
  go_wp2_with fail
  go_loopw [8] (fun i wr => ∃ k : Nat, k ≤ 64 ∧ i = .int .i64 k ∧ wr = w1) (fun i _ => 64 - (intOf i).toNat)
  case atStart => exact ⟨0, by omega, rfl, rfl⟩
  case round =>
    obtain ⟨k, hk, rfl, rfl⟩ := hrel
    by_cases hk64 : k < 64
    · have ck := (RA.out k hk64).1
      rw [HV.out k hk64] at ck
      have kb : (0 : Int) ≤ (k : Int) ∧ (k : Int) < 64 := by omega
      go_wp2
      go_roundw
      case rel => exact ⟨k + 1, by omega, by go_num, by first | rfl | trivial⟩
      case measure => simp [intOf]; omega
    · go_wp2
      go_ret
      exact ⟨rfl, HB.out⟩
theorem flat8 : ∀ i, i < 64 → invC (flatF 8) i = 1 := by decide +kernel
theorem flat2032 : ∀ i, i < 64 → invC (flatF 2032) i = 254 := by decide +kernel
theorem flatm8 : ∀ i, i < 64 → invC (flatF (-8)) i = -1 := by decide +kernel
theorem flat0 : ∀ i, i < 64 → invC (flatF 0) i = 0 := by decide +kernel
theorem below_new {w0 w1 w2 : World} {o : Obj} (h : Below w0.heap.size w0 w1) (k : Below (w1.alloc o).heap.size (w1.alloc o) w2) : Below w0.heap.size w0 w2 :=
  chain (h.alloc h.size o) k

set_option maxRecDepth 100000 in
theorem awake_true (w : World) : Calls Try.prog 16 #[] w fun e w' => e = .returned (.bool true) ∧ Below w.heap.size w w' := by
  go_enter Try.func16, Try.ntmps16
  go_wp2_with fail
  refine (weighs_true 1 0 2009 0 _ (by decide) (by decide)).mono ?_
  rintro e w1 ⟨rfl, b1⟩
  have HB := Lib.hid b1
  clear b1
  go_wp2_with fail
  refine (weighs_true 2 3 (-1892) 0 _ (by decide) (by decide)).mono ?_
  rintro e w2 ⟨rfl, b2⟩
  have HB := Lib.hid (chain HB.out b2)
  clear b2
  go_wp2_with fail
  refine (flat_true 8 1 _ (by omega) flat8).mono ?_
  rintro e w3 ⟨rfl, b3⟩
  have HB := Lib.hid (chain HB.out b3)
  clear b3
  go_wp2_with fail
  go_ret
  exact ⟨rfl, HB.out⟩
theorem lit_sl {w : World} {k : IntKind} (cs : Array Value) (t : TypeId) (n : Nat) (g : Nat → Int) (hn : n ≤ 1000) (h : ∀ i, i < n → cs[i]? = some (.int k (g i))) : Sl k (w.alloc (.cells cs t)) (.slice (some ⟨w.heap.size, 0, none⟩) n n) n g :=
  ⟨_, n, rfl, Nat.le_refl _, by unfold maxLen; omega, .inr ⟨w.heap.size, 0, rfl, by simp, (Arr.new w k cs t n g h).ints⟩⟩
def k1 (i : Nat) : Int := [((1) : Int), (0), (0), (0), (0), (0), (0), (0)].getD i 0
theorem k1_c (i : Nat) (h : i < 8) : (#[.int .i64 (1), .int .i64 (0), .int .i64 (0), .int .i64 (0), .int .i64 (0), .int .i64 (0), .int .i64 (0), .int .i64 (0)] : Array Value)[i]? = some (.int .i64 (k1 i)) := by
  rcases (by omega : i = 0 ∨ i = 1 ∨ i = 2 ∨ i = 3 ∨ i = 4 ∨ i = 5 ∨ i = 6 ∨ i = 7) with rfl | rfl | rfl | rfl | rfl | rfl | rfl | rfl <;> rfl
def k2 (i : Nat) : Int := [((0) : Int), (1), (0), (0), (0), (0), (0), (0)].getD i 0
theorem k2_c (i : Nat) (h : i < 8) : (#[.int .i64 (0), .int .i64 (1), .int .i64 (0), .int .i64 (0), .int .i64 (0), .int .i64 (0), .int .i64 (0), .int .i64 (0)] : Array Value)[i]? = some (.int .i64 (k2 i)) := by
  rcases (by omega : i = 0 ∨ i = 1 ∨ i = 2 ∨ i = 3 ∨ i = 4 ∨ i = 5 ∨ i = 6 ∨ i = 7) with rfl | rfl | rfl | rfl | rfl | rfl | rfl | rfl <;> rfl
def k3 (i : Nat) : Int := [((1) : Int), (2), (3)].getD i 0
theorem k3_c (i : Nat) (h : i < 3) : (#[.int .i64 (1), .int .i64 (2), .int .i64 (3)] : Array Value)[i]? = some (.int .i64 (k3 i)) := by
  rcases (by omega : i = 0 ∨ i = 1 ∨ i = 2) with rfl | rfl | rfl <;> rfl
def k4 (i : Nat) : Int := [((1448) : Int), (1448), (1448), (1448), (1448), (1448), (1448), (1448)].getD i 0
theorem k4_c (i : Nat) (h : i < 8) : (#[.int .i64 (1448), .int .i64 (1448), .int .i64 (1448), .int .i64 (1448), .int .i64 (1448), .int .i64 (1448), .int .i64 (1448), .int .i64 (1448)] : Array Value)[i]? = some (.int .i64 (k4 i)) := by
  rcases (by omega : i = 0 ∨ i = 1 ∨ i = 2 ∨ i = 3 ∨ i = 4 ∨ i = 5 ∨ i = 6 ∨ i = 7) with rfl | rfl | rfl | rfl | rfl | rfl | rfl | rfl <;> rfl
def k5 (i : Nat) : Int := [((2009) : Int), (1703), (1138), (400), (-400), (-1138), (-1703), (-2009)].getD i 0
theorem k5_c (i : Nat) (h : i < 8) : (#[.int .i64 (2009), .int .i64 (1703), .int .i64 (1138), .int .i64 (400), .int .i64 (-400), .int .i64 (-1138), .int .i64 (-1703), .int .i64 (-2009)] : Array Value)[i]? = some (.int .i64 (k5 i)) := by
  rcases (by omega : i = 0 ∨ i = 1 ∨ i = 2 ∨ i = 3 ∨ i = 4 ∨ i = 5 ∨ i = 6 ∨ i = 7) with rfl | rfl | rfl | rfl | rfl | rfl | rfl | rfl <;> rfl
theorem k1_e : lE 8 k1 = 0 := by decide +kernel
theorem k1_n : lN 8 k1 = 8 := by decide +kernel
theorem k2_e : lE 8 k2 = 0 := by decide +kernel
theorem k2_n : lN 8 k2 = 8 := by decide +kernel
theorem k1_v : ∀ i, i < 8 → lineC k1 i = k4 i := by decide +kernel
theorem k2_v : ∀ i, i < 8 → lineC k2 i = k5 i := by decide +kernel
theorem great_e : vE 64 (flatF 2048) = 3 := by decide +kernel

set_option maxRecDepth 100000 in
set_option maxHeartbeats 2000000 in
theorem known_true (w : World) : Calls Try.prog 6 #[] w fun e w' => e = .returned (.bool true) ∧ Below w.heap.size w w' := by
  go_enter Try.func6, Try.ntmps6
  go_wp2_with fail
  refine (Line_any _ 8 k1 _ (lit_sl _ _ 8 k1 (by decide) k1_c)).mono ?_
  rintro e w1 ⟨v1, rfl, hR, hB⟩
  rw [k1_e]
  rw [k1_n] at hR
  have R1 := Lib.hid hR
  have HB := Lib.hid (below_new (Below.refl w.heap.size w) hB)
  clear hR hB
  go_wp2_with fail
  refine (Line_any _ 8 k2 _ (lit_sl _ _ 8 k2 (by decide) k2_c)).mono ?_
  rintro e w2 ⟨v2, rfl, hR, hB⟩
  rw [k2_e]
  rw [k2_n] at hR
  have hB' := below_new (Below.refl w1.heap.size w1) hB
  have R1 := Lib.hid (R1.out.below hB')
  have R2 := Lib.hid hR
  have HB := Lib.hid (chain HB.out hB')
  clear hR hB hB'
  go_wp2_with fail
  refine (Inverse_any _ 3 k3 _ (lit_sl _ _ 3 k3 (by decide) k3_c)).mono ?_
  rintro e w3 ⟨v3, rfl, hR, hB⟩
  rw [show vE 3 k3 = 2 from rfl]
  have hB' := below_new (Below.refl w2.heap.size w2) hB
  have R1 := Lib.hid (R1.out.below hB')
  have R2 := Lib.hid (R2.out.below hB')
  have HB := Lib.hid (chain HB.out hB')
  clear hR hB hB'
  have hmk := make64c
  have MA := Lib.hid (Arr.new w3 .i64 ((rowOf .i64 64 fun _ => 0).setIfInBounds 0 (.int .i64 2048)) 3 64 (flatF 2048) (set0_get 2048))
  have NB := Lib.hid ((Below.refl w3.heap.size w3).alloc (Nat.le_refl _) (.cells ((rowOf .i64 64 fun _ => 0).setIfInBounds 0 (.int .i64 2048)) 3))
  have hlt := MA.out.lt (by omega)
  go_wp2_with fail
  clear hmk
  refine (Inverse_any _ 64 (flatF 2048) _ ⟨_, 64, rfl, Nat.le_refl _, by decide, .inr ⟨w3.heap.size, 0, rfl, hlt, MA.out.ints⟩⟩).mono ?_
  rintro e w4 ⟨v4, rfl, hR, hB⟩
  rw [great_e]
  have hB' := chain NB.out hB
  have R1 := Lib.hid (R1.out.below hB')
  have R2 := Lib.hid (R2.out.below hB')
  have HB := Lib.hid (chain HB.out hB')
  clear hR hB hB' NB MA hlt
  go_wp2_with fail
  refine (weighs_true 0 5 1448 0 _ (by decide) (by decide)).mono ?_
  rintro e w5 ⟨rfl, hB⟩
  have R1 := Lib.hid (R1.out.below hB)
  have R2 := Lib.hid (R2.out.below hB)
  have HB := Lib.hid (chain HB.out hB)
  clear hB
  go_wp2_with fail
  refine (weighs_true 1 7 (-2009) 0 _ (by decide) (by decide)).mono ?_
  rintro e w6 ⟨rfl, hB⟩
  have R1 := Lib.hid (R1.out.below hB)
  have R2 := Lib.hid (R2.out.below hB)
  have HB := Lib.hid (chain HB.out hB)
  clear hB
  go_wp2_with fail
  refine (weighs_true 4 1 (-1448) 0 _ (by decide) (by decide)).mono ?_
  rintro e w7 ⟨rfl, hB⟩
  have R1 := Lib.hid (R1.out.below hB)
  have R2 := Lib.hid (R2.out.below hB)
  have HB := Lib.hid (chain HB.out hB)
  clear hB
  go_wp2_with fail
  refine (weighs_true 8 0 0 3 _ (by decide) (by decide)).mono ?_
  rintro e w8 ⟨rfl, hB⟩
  have R1 := Lib.hid (R1.out.below hB)
  have R2 := Lib.hid (R2.out.below hB)
  have HB := Lib.hid (chain HB.out hB)
  clear hB
  go_wp2_with fail
  refine (SameInts_true _ _ 8 (lineC k1) k4 _ (by decide) (R1.out.below ((Below.refl _ _).alloc (Nat.le_refl _) _)).sl (lit_sl _ _ 8 k4 (by decide) k4_c) k1_v).mono ?_
  rintro e w9 ⟨rfl, hB⟩
  have hB' := below_new (Below.refl w8.heap.size w8) hB
  have R2 := Lib.hid (R2.out.below hB')
  have HB := Lib.hid (chain HB.out hB')
  clear hB hB' R1
  go_wp2_with fail
  refine (SameInts_true _ _ 8 (lineC k2) k5 _ (by decide) (R2.out.below ((Below.refl _ _).alloc (Nat.le_refl _) _)).sl (lit_sl _ _ 8 k5 (by decide) k5_c) k2_v).mono ?_
  rintro e w10 ⟨rfl, hB⟩
  have HB := Lib.hid (below_new HB.out hB)
  clear hB R2
  go_wp2_with fail
  refine (awake_true _).mono ?_
  rintro e w11 ⟨rfl, hB⟩
  have HB := Lib.hid (chain HB.out hB)
  clear hB
  go_wp2_with fail
  refine (flat_true 2032 254 _ (by omega) flat2032).mono ?_
  rintro e w12 ⟨rfl, hB⟩
  have HB := Lib.hid (chain HB.out hB)
  clear hB
  go_wp2_with fail
  refine (flat_true (-8) (-1) _ (by omega) flatm8).mono ?_
  rintro e w13 ⟨rfl, hB⟩
  have HB := Lib.hid (chain HB.out hB)
  clear hB
  go_wp2_with fail
  refine (flat_true 0 0 _ (by omega) flat0).mono ?_
  rintro e w14 ⟨rfl, hB⟩
  have HB := Lib.hid (chain HB.out hB)
  clear hB
  go_wp2_with fail
  go_ret
  exact ⟨rfl, HB.out⟩
end Co
end Go.Proofs.Ytkeefdlnolcapaa
