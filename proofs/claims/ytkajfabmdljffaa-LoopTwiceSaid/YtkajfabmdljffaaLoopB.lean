/- What loop.Filter and loop.Soften come to. -/
import Derived.Test.YtkajfabmdljffaaLoopA
import Derived.Test.YtkajfabmdljffaaSlices
import Derived.Test.YtkajfabmdljffaaArr
namespace Go.Proofs.Ytkajfabmdljffaa
open Go.RowKit
namespace Lo

theorem soften_at (b : Nat) (A S : Int) (a s : Nat) (hA' : A = a) (hS' : S = s) (f : Nat → Int) (w : World) (hA : Arr w .i64 b 64 f) (has : a + 7 * s < 64) (hs : 1 ≤ s) (hf : ∀ i, -17592186044416 ≤ f i ∧ f i ≤ 17592186044416) :
    Calls Try.prog 54 #[.agg #[.pointer (some ⟨b, 0, none⟩), .int .i64 A, .int .i64 S]] w fun e w' =>
      e = .returned (.tuple #[]) ∧ Arr w' .i64 b 64 (upTo f a s 8) ∧ w.grownBy w' (some b) := by
  subst hA' hS'; exact soften_any b a s f w hA has hs hf
theorem make64b (w : World) : (Instr.makeSlice 44 (.int .i64 64) (.int .i64 64)).run Try.prog w = .ok (.slice (some ⟨w.heap.size, 0, none⟩) 64 64) (w.alloc (.cells (rowOf .u8 64 (fun _ => 0)) 5)) := by kernel_rfl
theorem made (w : World) (k : IntKind) (t : TypeId) (n : Nat) (f : Nat → Int) : Arr (w.alloc (.cells (rowOf k n f) t)) k w.heap.size n f := Arr.new w k _ t n f fun i hi => rowOf_get k n f i hi

/-- numbers that are bytes' at the places up to 64. -/
def by0 (f : Nat → Int) (i : Nat) : Int := if i < 64 then f i else 0

set_option maxRecDepth 100000 in
set_option maxHeartbeats 2000000 in
theorem filter_row (b o c : Nat) (f : Nat → Int) (w : World) (h : Ints w .u8 b o 64 f) (hf : ∀ i, 0 ≤ f i ∧ f i ≤ 255) :
    Calls Try.prog 36 #[.slice (some ⟨b, o, none⟩) 64 c] w fun e w' => ∃ g c', e = .returned (.tuple #[.slice (some ⟨g, 0, none⟩) 64 c', .int .i64 0]) ∧ w.heap.size ≤ g ∧ g < w'.heap.size ∧ 64 ≤ c' ∧ c' ≤ maxLen ∧ Arr w' .u8 g 64 (filt f) ∧ Below w.heap.size w w' := by
  have hblt := h.lt (by omega)
  have H := Lib.hid h
  have HF := Lib.hid hf
  have hmk := make64b
  clear h hf
  go_enter Try.func36, Try.ntmps36
  go_wp2
  go_loopw [17] (fun i wr => ∃ k : Nat, k ≤ 64 ∧ i = .int .i64 k ∧ Arr wr .i64 w.heap.size 64 (fun i => if i < k then f i else 0) ∧ Below w.heap.size w wr) (fun i _ => 64 - (intOf i).toNat)
  case atStart => exact ⟨0, by omega, rfl, (made w .i64 62 64 (fun _ => 0)).start, (Below.refl _ _).alloc (Nat.le_refl _) _⟩
  case round =>
    obtain ⟨k, hk, rfl, hA, hB⟩ := hrel
    by_cases hk64 : k < 64
    · have ck := (H.out.below hB hblt).at k hk64
      have cz := hA k hk64
      have kb : (0 : Int) ≤ (k : Int) ∧ (k : Int) < 64 := by omega
      have fk := HF.out k
      have HA := Lib.hid hA
      have HB := Lib.hid hB
      clear hA hB hmk
      go_wp2
      go_roundw
      case rel => exact ⟨k + 1, by omega, by go_num, HA.out.fill (f k) rfl, HB.out.setCell (Nat.le_refl _) _⟩
      case measure => simp [intOf]; omega
    · have hA' : Arr wr .i64 w.heap.size 64 (fun i => if i / 8 < 0 then rowsF f i else f i) := by
        obtain rfl : k = 64 := by omega
        exact hA.filled.congr fun i _ => by simp
      have hk' : 64 ≤ k := by omega
      clear hA hk hk64
      go_wp2
      obtain ⟨w0, rfl⟩ : ∃ w0 : World, w0 = wr := ⟨_, rfl⟩
      go_loopw [27] (fun i wr => ∃ y : Nat, y ≤ 8 ∧ i = .int .i64 y ∧ Arr wr .i64 w.heap.size 64 (fun i => if i / 8 < y then rowsF f i else f i) ∧ Below w.heap.size w wr) (fun i _ => 8 - (intOf i).toNat)
      case atStart => exact ⟨0, by omega, rfl, hA', hB⟩
      case round =>
        obtain ⟨y, hy, rfl, hA, hBy⟩ := hrel
        by_cases hy8 : y < 8
        · have HA := Lib.hid hA
          have HB := Lib.hid hBy
          have ys : Hid ((8 : Int) * (y : Int) = ((8 * y : Nat) : Int)) := by show _ = _; simp
          clear hA hBy hB hA' hmk
          have bd : Hid (∀ i, -17592186044416 ≤ (if i / 8 < y then rowsF f i else f i) ∧ (if i / 8 < y then rowsF f i else f i) ≤ 17592186044416) := by
            intro i
            have := rowsF_bd f HF.out i
            have := HF.out i
            split <;> omega
          go_wp2_with (go_at_call 54; ((with_reducible refine (soften_at w.heap.size _ 1 (8 * y) 1 ys.out rfl _ _ HA.out (by omega) (by decide) bd.out).mono ?_); rintro e w1 ⟨rfl, h1, g1⟩))
          go_roundw
          case rel => exact ⟨y + 1, by omega, by go_num, h1.congr fun i _ => row_step f y i, HB.out.grown g1 HB.out.size (fun j hj => by cases hj; exact Nat.le_refl _)⟩
          case measure => simp [intOf]; omega
        · have hA' : Arr wr .i64 w.heap.size 64 (fun i => if i % 8 < 0 then colsF (rowsF f) i else rowsF f i) := by
            obtain rfl : y = 8 := by omega
            exact hA.congr fun i hi => by rw [if_pos (by omega), if_neg (by omega)]
          have hy' : 8 ≤ y := by omega
          clear hA hy hy8 hB
          go_wp2
          obtain ⟨w2, rfl⟩ : ∃ w2 : World, w2 = wr := ⟨_, rfl⟩
          go_loopw [35] (fun i wr => ∃ x : Nat, x ≤ 8 ∧ i = .int .i64 x ∧ Arr wr .i64 w.heap.size 64 (fun i => if i % 8 < x then colsF (rowsF f) i else rowsF f i) ∧ Below w.heap.size w wr) (fun i _ => 8 - (intOf i).toNat)
          case atStart => exact ⟨0, by omega, rfl, hA', hBy⟩
          case round =>
            obtain ⟨x, hx, rfl, hA, hBx⟩ := hrel
            by_cases hx8 : x < 8
            · have HA := Lib.hid hA
              have HB := Lib.hid hBx
              have bd : Hid (∀ i, -17592186044416 ≤ (if i % 8 < x then colsF (rowsF f) i else rowsF f i) ∧ (if i % 8 < x then colsF (rowsF f) i else rowsF f i) ≤ 17592186044416) := by
                intro i
                have := rowsF_bd f HF.out i
                have := colsF_bd f HF.out i
                split <;> omega
              clear hA hBx hBy hA' hmk
              go_wp2_with (go_at_call 54; ((with_reducible refine (soften_at w.heap.size _ 8 x 8 rfl rfl _ _ HA.out (by omega) (by decide) bd.out).mono ?_); rintro e w1 ⟨rfl, h1, g1⟩))
              go_roundw
              case rel => exact ⟨x + 1, by omega, by go_num, h1.congr fun i hi => col_step (rowsF f) x i hx8 hi, HB.out.grown g1 HB.out.size (fun j hj => by cases hj; exact Nat.le_refl _)⟩
              case measure => simp [intOf]; omega
            · have hA' : Arr wr .i64 w.heap.size 64 (colsF (rowsF f)) := by
                obtain rfl : x = 8 := by omega
                exact hA.congr fun i hi => by rw [if_pos (by omega)]
              have hx' : 8 ≤ x := by omega
              have hltx := hA'.lt (by omega)
              have HA := Lib.hid hA'
              have HB := Lib.hid hBx
              clear hA hx hx8 hBy hA' hBx
              have hmk := make64b
              have HA2 := Lib.hid (HA.out.alloc (.cells (rowOf .u8 64 (fun _ => 0)) 5))
              have HB2 := Lib.hid (HB.out.alloc HB.out.size (.cells (rowOf .u8 64 (fun _ => 0)) 5))
              have M0 := Lib.hid (made wr .u8 5 64 (fun _ => 0))
              go_wp2_with (refine wpList_load_arr rfl 62 (.tmp 4) rfl (rfl) HA2.out Try.underlying62 (by kernel_rfl) ?_)
              clear hmk
              have hsz3 := HB.out.size
              obtain ⟨w3, rfl⟩ : ∃ w3 : World, w3 = wr := ⟨_, rfl⟩
              obtain ⟨i0, hi, hz0, hz1, hz2⟩ := info_parts info_int
              have CB := Lib.hid (colsF_bd f HF.out)
              have IX : Hid (∀ k : Nat, k < 64 → ∀ W : World, (Instr.index 62 (.agg (rowOf .i64 64 (colsF (rowsF f)))) (.int .i64 (k : Int))).run Try.prog W = .ok (.int .i64 (colsF (rowsF f) k)) W) :=
                Lib.hid (fun k hk W => run_index_row W Try.underlying62 Try.underlying3 hi hz1 .i64 k hk)
              clear hi hz0 hz1 hz2
              go_loopw [44] (fun i wr => ∃ k : Nat, k ≤ 64 ∧ i = .int .i64 k ∧ Arr wr .u8 w3.heap.size 64 (fun i => if i < k then filt f i else 0) ∧ Below w.heap.size w wr) (fun i _ => 64 - (intOf i).toNat)
              case atStart => exact ⟨0, by omega, rfl, M0.out.start, HB2.out⟩
              case round =>
                obtain ⟨k, hk, rfl, hA, hB⟩ := hrel
                by_cases hk64 : k < 64
                · have cz := hA k hk64
                  have ix := IX.out k hk64
                  have cb := CB.out k
                  have kb : (0 : Int) ≤ (k : Int) ∧ (k : Int) < 64 := by omega
                  have HA := Lib.hid hA
                  have HB := Lib.hid hB
                  have sz3 : w.heap.size ≤ w3.heap.size := hsz3
                  clear hA hB
                  go_wp2
                  go_roundw
                  case rel => exact ⟨k + 1, by omega, by go_num, HA.out.fill _ rfl, HB.out.setCell sz3 _⟩
                  case measure => simp [intOf]; omega
                · have hA' : Arr wr .u8 w3.heap.size 64 (filt f) := by
                    obtain rfl : k = 64 := by omega
                    exact hA.filled
                  have hk' : 64 ≤ k := by omega
                  have HA := Lib.hid hA'
                  have HB := Lib.hid hB
                  have sz3 : w.heap.size ≤ w3.heap.size := hsz3
                  clear hA hB hk hk64 hA'
                  go_wp2
                  go_ret2
                  exact ⟨w3.heap.size, 64, rfl, sz3, HA.out.lt (by decide), by decide, by decide, HA.out, HB.out⟩
end Lo
end Go.Proofs.Ytkajfabmdljffaa
