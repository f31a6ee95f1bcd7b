/- The statements on the loop filter: a block made of bytes; rows and columns, softened. -/
import Derived.Test.YtkajfabmdljffaaLaw15d
import Derived.Test.YtkajfabmdljffaaPlLoop2
import Derived.Laws.CopyOwn
namespace Go.Proofs.Ytkajfabmdljffaa
open Go.RowKit
namespace Lo

theorem splice0 (n : Nat) (f : Nat → Int) (i : Nat) (hi : i < 64) :
    (splice ((List.range 64).map fun _ => Value.int .u8 0) 0 ((List.range n).map fun i => Value.int .u8 (f i))).toArray[i]? = some (.int .u8 (if i < n then f i else 0)) := by
  unfold splice
  simp only [List.take_zero, List.nil_append, List.getElem?_toArray, Nat.zero_add, List.length_map, List.length_range]
  by_cases h : i < n
  · rw [List.getElem?_append_left (by simp; omega)]
    simp [h]
  · rw [List.getElem?_append_right (by simp; omega)]
    simp only [List.length_map, List.length_range, List.getElem?_drop, if_neg h]
    rw [show n + (i - n) = i by omega]
    simp [hi]
/-- what is copied lies there. -/
def CopyPos (w : World) (g : Nat) (a : Option Addr) (n : Nat) (f : Nat → Int) : Prop :=
  0 < ((List.range n).map fun i => Value.int .u8 (f i)).length → (some (⟨g, 0, none⟩ : Addr)) = some ⟨g, 0, none⟩ ∧ ∃ ad, a = some ad ∧ ∀ j u, ((List.range n).map fun i => Value.int .u8 (f i))[j]? = some u → w.cell? (ad.add j) = some u
set_option maxRecDepth 100000 in
/-- 64 samples, by any bytes. -/
theorem made_any (v : Value) (n : Nat) (f : Nat → Int) (w : World) (hs : Sl .u8 w v n f) (hn : n ≤ 64) :
    Calls Try.prog 43 #[v] w (Fresh64 w (fun i => if i < n then f i else 0)) := by
  have hmk := make64b
  obtain ⟨a, c, rfl, _, _, h3⟩ := hs
  have POS : Hid (CopyPos (w.alloc (.cells (rowOf .u8 64 (fun _ => 0)) 5)) w.heap.size a n f) := Lib.hid (by
    intro hp
    refine ⟨rfl, ?_⟩
    rcases h3 with ⟨h0, _⟩ | ⟨b, o, rfl, _, hI⟩
    · simp at hp; omega
    · exact ⟨_, rfl, news_ints (hI.alloc _)⟩)
  have HG := Lib.hid (heap_alloc_new w (.cells (rowOf .u8 64 (fun _ => 0)) 5))
  have HB0 := Lib.hid ((Below.refl w.heap.size w).alloc (Nat.le_refl _) (.cells (rowOf .u8 64 (fun _ => 0)) 5))
  have OC := Lib.hid (one_cells .u8 n f)
  have LN : ((List.range n).map fun i => Value.int .u8 (f i)).length = Nat.min n 64 := by rw [List.length_map, List.length_range]; exact (Nat.min_eq_left hn).symm
  have FT : 0 + ((List.range n).map fun i => Value.int .u8 (f i)).length ≤ ((List.range 64).map fun _ => Value.int .u8 0).length := by rw [List.length_map, List.length_range, List.length_map, List.length_range]; omega
  have LN := Lib.hid LN
  have FT := Lib.hid FT
  have SZ : (Try.prog.info? 5).map (·.size) = some 1 := by kernel_rfl
  clear h3
  go_enter Try.func43, Try.ntmps43
  go_wp2_with (refine wpList_copy_splice rfl _ _ _ _ rfl 5 Try.underlying44 SZ (some ⟨w.heap.size, 0, none⟩) a 64 64 n c rfl rfl w.heap.size 0 ((List.range 64).map fun _ => Value.int .u8 0) 5 HG.out ((List.range n).map fun i => Value.int .u8 (f i)) LN.out POS.out FT.out OC.out w.heap.size w HB0.out (Nat.le_refl _) ?_; intro w' hh hb)
  have HB := Lib.hid hb
  clear hb hmk
  go_ret
  exact ⟨_, _, rfl, Nat.le_refl _, (Array.getElem?_eq_some_iff.1 hh.out).1, Nat.le_refl _, by decide, fun i hi => ⟨by rw [cell_of_row _ _ i _ _ (0, 0) hh.out]; exact splice0 n f i hi, frozen_of_row hh.out i⟩, HB.out⟩

theorem make64i (w : World) : (Instr.makeSlice 35 (.int .i64 64) (.int .i64 64)).run Try.prog w = .ok (.slice (some ⟨w.heap.size, 0, none⟩) 64 64) (w.alloc (.cells (rowOf .i64 64 (fun _ => 0)) 3)) := by kernel_rfl
theorem soften_own (v : Value) (B : Nat) (f : Nat → Int) (w : World) (hb : ∀ i, 0 ≤ f i ∧ f i ≤ 4000) (hown : w.ownsRow B 3 1 v 8 ((List.range 8).map fun i => .int .i64 (f i))) :
    Calls Try.prog 38 #[v] w fun e w' => ∃ g c, e = .returned (.tuple #[.slice (some ⟨g, 0, none⟩) 8 c, .int .i64 0]) ∧ w.heap.size ≤ g ∧ g < w'.heap.size ∧ Arr w' .i64 g 8 (sft f) ∧ Below w.heap.size w w' := by
  refine (Soften_any v 8 f w (Res.of_own hown).sl).mono ?_
  rintro e w' ⟨v', rfl, hR, hB⟩
  have e1 : sE 8 f = 0 := by unfold sE; rw [if_pos rfl, okS_all hb]; rfl
  have e2 : sN 8 f = 8 := by unfold sN; rw [if_pos rfl, okS_all hb]; rfl
  rw [e1]
  rw [e2] at hR
  rcases hR with ⟨h0, _⟩ | ⟨g, c, rfl, r1, r2, r3, r4, r5⟩
  · exact absurd h0 (by decide)
  · exact ⟨g, c, rfl, r1, r2, r5, hB⟩
/-- what lines comes to. -/
def Lined (w : World) (f : Nat → Int) (e : Ending) (w' : World) : Prop :=
  ∃ g c, e = .returned (.tuple #[.slice (some ⟨g, 0, none⟩) 64 c, .bool true]) ∧ w.heap.size ≤ g ∧ g < w'.heap.size ∧ 64 ≤ c ∧ c ≤ maxLen ∧ Arr w' .i64 g 64 f ∧ Below w.heap.size w w'

set_option maxRecDepth 100000 in
set_option maxHeartbeats 4000000 in
theorem lines_rows (b c : Nat) (f : Nat → Int) (w : World) (h : Arr w .i64 b 64 f) (hf : ∀ i, 0 ≤ f i ∧ f i ≤ 4000) :
    Calls Try.prog 44 #[.slice (some ⟨b, 0, none⟩) 64 c, .bool false] w (Lined w (rowsF f)) := by
  have hmk := make64i
  obtain ⟨i0, hi, hz0, hz1, hz2⟩ := info_parts info_int
  have hblt := h.lt (by omega)
  have H := Lib.hid h
  have HF := Lib.hid hf
  have M0 := Lib.hid (made w .i64 3 64 (fun _ => 0))
  clear h hf
  go_enter Try.func44, Try.ntmps44
  go_wp2
  clear hmk
  go_loopw [7] (fun i wr => ∃ y : Nat, y ≤ 8 ∧ i = .int .i64 y ∧ Arr wr .i64 w.heap.size 64 (fun i => if i < 8 * y then rowsF f i else 0) ∧ Below w.heap.size w wr) (fun i _ => 8 - (intOf i).toNat)
  case atStart => exact ⟨0, by omega, rfl, M0.out.congr (fun i _ => by rw [if_neg (by omega)]), (Below.refl _ _).alloc (Nat.le_refl _) _⟩
  case round =>
    obtain ⟨y, hy, rfl, hA, hB⟩ := hrel
    by_cases hy8 : y < 8
    · obtain ⟨wo, rfl⟩ : ∃ wo : World, wo = wr := ⟨_, rfl⟩
      have hlo := hA.lt (by omega)
      have blo : b < wo.heap.size := Nat.lt_of_lt_of_le hblt hB.size
      have HX := Lib.hid (H.out.below hB hblt)
      have HA := Lib.hid hA
      have HB := Lib.hid hB
      have yb : (0 : Int) ≤ (y : Int) ∧ (y : Int) < 8 := by omega
      clear hA hB
      go_wp2
      go_loopw [10, 11] (fun v i wr => ∃ x : Nat, x ≤ 8 ∧ i = .int .i64 x ∧ wr.ownsRow wo.heap.size 3 1 v x ((List.range x).map fun i => .int .i64 (f (8 * y + i))) ∧ Below wo.heap.size wo wr) (fun _ i _ => 8 - (intOf i).toNat)
      case atStart => exact ⟨0, by omega, rfl, World.ownsRow_nil _ _ _ _, Below.refl _ _⟩
      case round =>
        obtain ⟨x, hx, rfl, hown, hB⟩ := hrel
        by_cases hx8 : x < 8
        · have cx := (HX.out.below hB blo (8 * y + x) (by omega)).1
          have fx := HF.out (8 * y + x)
          have xb : (0 : Int) ≤ (x : Int) ∧ (x : Int) < 8 := by omega
          have sz := hB.size
          have HBi := Lib.hid hB
          have OWN := Lib.hid hown
          clear hB hown
          go_wp2_with (at_builtin; refine wpList_append_own _ rfl _ _ 35 rfl wo.heap.size 3 i0 (.int .i64 0) 1 8 Try.underlying35 hi hz0 hz1 hz2 rfl (by decide) _ _ _ rfl (OWN.out.alloc _) ⟨wr.heap.size, 0, none⟩ 1 1 [.int .i64 (f (8 * y + x))] rfl rfl (cell_one_new _ _ _) (by simp [Value.oneCell']) (by unfold maxLen; omega) (by omega) (by simp; omega) ?_; intro v' w1 hown2 hgr hnil)
          have hB1 : Below wo.heap.size wo w1 := (HBi.out.alloc sz (.cells #[.int .i64 (f (8 * y + x))] 3)).grown hgr (by simp; omega) (fun q hq => (OWN.out.lt q hq).1)
          have hown3 : w1.ownsRow wo.heap.size 3 1 v' (x + 1) ((List.range (x + 1)).map fun i => .int .i64 (f (8 * y + i))) := by rw [← range_snoc]; exact hown2
          clear hown2 hgr hnil
          go_roundw
          case rel => exact ⟨x + 1, by omega, by go_num, hown3, hB1⟩
          case measure => simp [intOf]; omega
        · have hown8 : wr.ownsRow wo.heap.size 3 1 u10 8 ((List.range 8).map fun i => .int .i64 (f (8 * y + i))) := by
            obtain rfl : x = 8 := by omega
            exact hown
          have hx' : 8 ≤ x := by omega
          have OWN := Lib.hid hown8
          have HBi := Lib.hid hB
          have BF : Hid (∀ i, 0 ≤ f (8 * y + i) ∧ f (8 * y + i) ≤ 4000) := Lib.hid (fun i => HF.out _)
          clear hown hown8 hB hx hx8
          go_wp2_with (go_at_call 38; refine (soften_own _ _ (fun i => f (8 * y + i)) _ BF.out OWN.out).mono ?_; rintro e w1 ⟨gm, cm, rfl, m1, m2, m3, m4⟩)
          have hB1 : Below wo.heap.size wo w1 := HBi.out.trans (m4.mono HBi.out.size)
          have HA1 := Lib.hid (HA.out.below hB1 hlo)
          have HB1 := Lib.hid (HB.out.trans (hB1.mono HB.out.size))
          have HM := Lib.hid m3
          have gmN : gm ≠ w.heap.size := by have := HBi.out.size; omega
          have lo1 : w.heap.size < w1.heap.size := Nat.lt_of_lt_of_le hlo hB1.size
          clear m3 m4 hB1
          obtain ⟨wn, rfl⟩ : ∃ wn : World, wn = wr := ⟨_, rfl⟩
          go_loopw [14] (fun i wr => ∃ x : Nat, x ≤ 8 ∧ i = .int .i64 x ∧ Arr wr .i64 w.heap.size 64 (fun i => if i < 8 * y + x then rowsF f i else 0) ∧ Arr wr .i64 gm 8 (sft fun i => f (8 * y + i)) ∧ Below w.heap.size w wr) (fun i _ => 8 - (intOf i).toNat)
          case atStart => exact ⟨0, by omega, rfl, HA1.out.congr (fun i _ => by by_cases e : i < 8 * y <;> simp [e]), HM.out, HB1.out⟩
          case round =>
            obtain ⟨z, hz, rfl, hA, hM, hB⟩ := hrel
            by_cases hz8 : z < 8
            · have cz := hA (8 * y + z) (by omega)
              have cm := (hM z hz8).1
              have zb : (0 : Int) ≤ (z : Int) ∧ (z : Int) < 8 := by omega
              have gv : Hid (sft (fun i => f (8 * y + i)) z = rowsF f (8 * y + z)) := by
                show _ = _
                unfold rowsF
                have e1 : (8 * y + z) / 8 = y := by omega
                have e2 : (8 * y + z) % 8 = z := by omega
                rw [e1, e2]
              have HA := Lib.hid hA
              have HM := Lib.hid hM
              have HB := Lib.hid hB
              clear hA hM hB
              go_wp2
              go_roundw
              case rel =>
                refine ⟨z + 1, by omega, by go_num, (HA.out.set (8 * y + z) _).congr (fun i hi => ?_), HM.out.far (a := ⟨w.heap.size, 8 * y + z, none⟩) (fun e => gmN e.symm) _, HB.out.setCell (Nat.le_refl _) _⟩
                by_cases e : i = 8 * y + z
                · subst e
                  rw [if_pos rfl, if_pos (by omega), gv.out]
                · rw [if_neg e]
                  by_cases e2 : i < 8 * y + z
                  · rw [if_pos e2, if_pos (by omega)]
                  · rw [if_neg e2, if_neg (by omega)]
              case measure => simp [intOf]; omega
            · have hA8 : Arr wr .i64 w.heap.size 64 (fun i => if i < 8 * (y + 1) then rowsF f i else 0) := by
                obtain rfl : z = 8 := by omega
                refine hA.congr fun i hi => ?_
                by_cases e2 : i < 8 * (y + 1)
                · rw [if_pos e2, if_pos (by omega)]
                · rw [if_neg e2, if_neg (by omega)]
              have hz' : 8 ≤ z := by omega
              have HA := Lib.hid hA8
              have HB := Lib.hid hB
              clear hA hM hB hA8 hz hz8
              go_wp2
              go_roundw
              case rel => exact ⟨y + 1, by omega, by go_num, HA.out, HB.out⟩
              case measure => simp [intOf]; omega
    · have hA' : Arr wr .i64 w.heap.size 64 (rowsF f) := by
        obtain rfl : y = 8 := by omega
        exact hA.congr fun i _ => by rw [if_pos (by omega)]
      have hy' : 8 ≤ y := by omega
      have HA := Lib.hid hA'
      have HB := Lib.hid hB
      clear hA hA' hB hy hy8
      go_wp2
      go_ret2
      exact ⟨w.heap.size, 64, rfl, Nat.le_refl _, HA.out.lt (by decide), by decide, by decide, HA.out, HB.out⟩

set_option maxRecDepth 100000 in
set_option maxHeartbeats 4000000 in
theorem lines_cols (b c : Nat) (f : Nat → Int) (w : World) (h : Arr w .i64 b 64 f) (hf : ∀ i, 0 ≤ f i ∧ f i ≤ 4000) :
    Calls Try.prog 44 #[.slice (some ⟨b, 0, none⟩) 64 c, .bool true] w (Lined w (colsF f)) := by
  have hmk := make64i
  obtain ⟨i0, hi, hz0, hz1, hz2⟩ := info_parts info_int
  have hblt := h.lt (by omega)
  have H := Lib.hid h
  have HF := Lib.hid hf
  have M0 := Lib.hid (made w .i64 3 64 (fun _ => 0))
  clear h hf
  go_enter Try.func44, Try.ntmps44
  go_wp2
  clear hmk
  go_loopw [7] (fun i wr => ∃ y : Nat, y ≤ 8 ∧ i = .int .i64 y ∧ Arr wr .i64 w.heap.size 64 (fun i => if i % 8 < y then colsF f i else 0) ∧ Below w.heap.size w wr) (fun i _ => 8 - (intOf i).toNat)
  case atStart => exact ⟨0, by omega, rfl, M0.out.congr (fun i _ => by rw [if_neg (by omega)]), (Below.refl _ _).alloc (Nat.le_refl _) _⟩
  case round =>
    obtain ⟨y, hy, rfl, hA, hB⟩ := hrel
    by_cases hy8 : y < 8
    · obtain ⟨wo, rfl⟩ : ∃ wo : World, wo = wr := ⟨_, rfl⟩
      have hlo := hA.lt (by omega)
      have blo : b < wo.heap.size := Nat.lt_of_lt_of_le hblt hB.size
      have HX := Lib.hid (H.out.below hB hblt)
      have HA := Lib.hid hA
      have HB := Lib.hid hB
      have yb : (0 : Int) ≤ (y : Int) ∧ (y : Int) < 8 := by omega
      clear hA hB
      go_wp2
      go_loopw [10, 11] (fun v i wr => ∃ x : Nat, x ≤ 8 ∧ i = .int .i64 x ∧ wr.ownsRow wo.heap.size 3 1 v x ((List.range x).map fun i => .int .i64 (f (y + i * 8))) ∧ Below wo.heap.size wo wr) (fun _ i _ => 8 - (intOf i).toNat)
      case atStart => exact ⟨0, by omega, rfl, World.ownsRow_nil _ _ _ _, Below.refl _ _⟩
      case round =>
        obtain ⟨x, hx, rfl, hown, hB⟩ := hrel
        by_cases hx8 : x < 8
        · have cx := (HX.out.below hB blo (y + x * 8) (by omega)).1
          have fx := HF.out (y + x * 8)
          have xb : (0 : Int) ≤ (x : Int) ∧ (x : Int) < 8 := by omega
          have sz := hB.size
          have HBi := Lib.hid hB
          have OWN := Lib.hid hown
          clear hB hown
          go_wp2_with (at_builtin; refine wpList_append_own _ rfl _ _ 35 rfl wo.heap.size 3 i0 (.int .i64 0) 1 8 Try.underlying35 hi hz0 hz1 hz2 rfl (by decide) _ _ _ rfl (OWN.out.alloc _) ⟨wr.heap.size, 0, none⟩ 1 1 [.int .i64 (f (y + x * 8))] rfl rfl (cell_one_new _ _ _) (by simp [Value.oneCell']) (by unfold maxLen; omega) (by omega) (by simp; omega) ?_; intro v' w1 hown2 hgr hnil)
          have hB1 : Below wo.heap.size wo w1 := (HBi.out.alloc sz (.cells #[.int .i64 (f (y + x * 8))] 3)).grown hgr (by simp; omega) (fun q hq => (OWN.out.lt q hq).1)
          have hown3 : w1.ownsRow wo.heap.size 3 1 v' (x + 1) ((List.range (x + 1)).map fun i => .int .i64 (f (y + i * 8))) := by rw [← range_snoc]; exact hown2
          clear hown2 hgr hnil
          go_roundw
          case rel => exact ⟨x + 1, by omega, by go_num, hown3, hB1⟩
          case measure => simp [intOf]; omega
        · have hown8 : wr.ownsRow wo.heap.size 3 1 u10 8 ((List.range 8).map fun i => .int .i64 (f (y + i * 8))) := by
            obtain rfl : x = 8 := by omega
            exact hown
          have hx' : 8 ≤ x := by omega
          have OWN := Lib.hid hown8
          have HBi := Lib.hid hB
          have BF : Hid (∀ i, 0 ≤ f (y + i * 8) ∧ f (y + i * 8) ≤ 4000) := Lib.hid (fun i => HF.out _)
          clear hown hown8 hB hx hx8
          go_wp2_with (go_at_call 38; refine (soften_own _ _ (fun i => f (y + i * 8)) _ BF.out OWN.out).mono ?_; rintro e w1 ⟨gm, cm, rfl, m1, m2, m3, m4⟩)
          have hB1 : Below wo.heap.size wo w1 := HBi.out.trans (m4.mono HBi.out.size)
          have HA1 := Lib.hid (HA.out.below hB1 hlo)
          have HB1 := Lib.hid (HB.out.trans (hB1.mono HB.out.size))
          have HM := Lib.hid m3
          have gmN : gm ≠ w.heap.size := by have := HBi.out.size; omega
          have lo1 : w.heap.size < w1.heap.size := Nat.lt_of_lt_of_le hlo hB1.size
          clear m3 m4 hB1
          obtain ⟨wn, rfl⟩ : ∃ wn : World, wn = wr := ⟨_, rfl⟩
          go_loopw [14] (fun i wr => ∃ x : Nat, x ≤ 8 ∧ i = .int .i64 x ∧ Arr wr .i64 w.heap.size 64 (fun i => if i % 8 < y ∨ (i % 8 = y ∧ i / 8 < x) then colsF f i else 0) ∧ Arr wr .i64 gm 8 (sft fun i => f (y + i * 8)) ∧ Below w.heap.size w wr) (fun i _ => 8 - (intOf i).toNat)
          case atStart => exact ⟨0, by omega, rfl, HA1.out.congr (fun i _ => by by_cases e : i % 8 < y <;> simp [e]), HM.out, HB1.out⟩
          case round =>
            obtain ⟨z, hz, rfl, hA, hM, hB⟩ := hrel
            by_cases hz8 : z < 8
            · have cz := hA (y + z * 8) (by omega)
              have cm := (hM z hz8).1
              have zb : (0 : Int) ≤ (z : Int) ∧ (z : Int) < 8 := by omega
              have gv : Hid (sft (fun i => f (y + i * 8)) z = colsF f (y + z * 8)) := by
                show _ = _
                unfold colsF
                have e1 : (y + z * 8) / 8 = z := by omega
                have e2 : (y + z * 8) % 8 = y := by omega
                rw [e1, e2]
                exact sft_congr hz8 fun j _ => by congr 1; omega
              have HA := Lib.hid hA
              have HM := Lib.hid hM
              have HB := Lib.hid hB
              clear hA hM hB
              go_wp2
              go_roundw
              case rel =>
                refine ⟨z + 1, by omega, by go_num, (HA.out.set (y + z * 8) _).congr (fun i hi => ?_), HM.out.far (a := ⟨w.heap.size, y + z * 8, none⟩) (fun e => gmN e.symm) _, HB.out.setCell (Nat.le_refl _) _⟩
                by_cases e : i = y + z * 8
                · subst e
                  rw [if_pos rfl, if_pos (by omega), gv.out]
                · rw [if_neg e]
                  by_cases e2 : i % 8 < y ∨ (i % 8 = y ∧ i / 8 < z)
                  · rw [if_pos e2, if_pos (by omega)]
                  · rw [if_neg e2, if_neg (by omega)]
              case measure => simp [intOf]; omega
            · have hA8 : Arr wr .i64 w.heap.size 64 (fun i => if i % 8 < y + 1 then colsF f i else 0) := by
                obtain rfl : z = 8 := by omega
                refine hA.congr fun i hi => ?_
                by_cases e2 : i % 8 < y + 1
                · rw [if_pos e2, if_pos (by omega)]
                · rw [if_neg e2, if_neg (by omega)]
              have hz' : 8 ≤ z := by omega
              have HA := Lib.hid hA8
              have HB := Lib.hid hB
              clear hA hM hB hA8 hz hz8
              go_wp2
              go_roundw
              case rel => exact ⟨y + 1, by omega, by go_num, HA.out, HB.out⟩
              case measure => simp [intOf]; omega
    · have hA' : Arr wr .i64 w.heap.size 64 (colsF f) := by
        obtain rfl : y = 8 := by omega
        exact hA.congr fun i _ => by rw [if_pos (by omega)]
      have hy' : 8 ≤ y := by omega
      have HA := Lib.hid hA'
      have HB := Lib.hid hB
      clear hA hA' hB hy hy8
      go_wp2
      go_ret2
      exact ⟨w.heap.size, 64, rfl, Nat.le_refl _, HA.out.lt (by decide), by decide, by decide, HA.out, HB.out⟩
end Lo
end Go.Proofs.Ytkajfabmdljffaa
