/- The statements on the transform: a block made of numbers; rows and columns, summed by weights. -/
import Derived.Test.YtkeefdlnolcapaaLaw11b
import Derived.Test.YtkeefdlnolcapaaPick
import Derived.Deep.LoopGhost
namespace Go.Proofs.Ytkeefdlnolcapaa
open Go.RowKit
namespace Co

/-- a number from -2,048 to 2,047, by any number. -/
def mkF (f : Nat → Int) (i : Nat) : Int := wrap64 (f i + 2048) % 4096 - 2048
def mkP (n : Nat) (f : Nat → Int) (i : Nat) : Int := if i < n then mkF f i else 0
theorem mkF_bd (f : Nat → Int) (i : Nat) : -2048 ≤ mkF f i ∧ mkF f i ≤ 2047 := by
  unfold mkF
  have := Int.emod_nonneg (wrap64 (f i + 2048)) (show (4096 : Int) ≠ 0 by omega)
  have := Int.emod_lt_of_pos (wrap64 (f i + 2048)) (show (0 : Int) < 4096 by omega)
  omega
theorem mkP_bd (n : Nat) (f : Nat → Int) (i : Nat) : -2048 ≤ mkP n f i ∧ mkP n f i ≤ 2047 := by
  unfold mkP; split
  · exact mkF_bd f i
  · omega
/-- what made comes to: a block of the call's own. -/
def Made (w : World) (f : Nat → Int) (e : Ending) (w' : World) : Prop :=
  ∃ g c, e = .returned (.slice (some ⟨g, 0, none⟩) 64 c) ∧ w.heap.size ≤ g ∧ g < w'.heap.size ∧ 64 ≤ c ∧ c ≤ maxLen ∧ Arr w' .i64 g 64 f ∧ Below w.heap.size w w'
set_option maxRecDepth 100000 in
theorem made_any (v : Value) (n : Nat) (f : Nat → Int) (w : World) (hs : Sl .i64 w v n f) (hn : n ≤ 64) :
    Calls Try.prog 22 #[v] w (Made w (mkP n f)) := by
  obtain ⟨a, c, rfl, _, _, h3⟩ := hs
  have hmk := make64c
  have RD : Hid (∀ i, i < n → ∃ b o, a = some ⟨b, o, none⟩ ∧ b < w.heap.size ∧ Ints w .i64 b o n f) := Lib.hid (by
    intro i hi
    rcases h3 with ⟨h0, _⟩ | ⟨b, o, rfl, hb, hI⟩
    · omega
    · exact ⟨b, o, rfl, hb, hI⟩)
  have M0 := Lib.hid (Arr.new w .i64 (rowOf .i64 64 (fun _ => 0)) 3 64 (fun _ => 0) (fun i hi => rowOf_get _ _ _ _ hi))
  clear h3
  go_enter Try.func22, Try.ntmps22
  go_wp2
  clear hmk
  go_loopw [4] (fun i wr => ∃ k : Nat, k ≤ n ∧ i = .int .i64 k ∧ Arr wr .i64 w.heap.size 64 (fun i => if i < k then mkF f i else 0) ∧ Below w.heap.size w wr) (fun i _ => n - (intOf i).toNat)
  case atStart => exact ⟨0, by omega, rfl, M0.out.start, (Below.refl _ _).alloc (Nat.le_refl _) _⟩
  case round =>
    obtain ⟨k, hk, rfl, hA, hB⟩ := hrel
    by_cases hkn : k < n
    · obtain ⟨b, o, rfl, hb, hI⟩ := RD.out k hkn
      have ck := (hI.below hB hb).at k hkn
      have cz := hA k (by omega)
      have kb : (0 : Int) ≤ (k : Int) ∧ (k : Int) < (n : Int) := by omega
      have kb2 : (k : Int) < 64 := by omega
      have d1 : decide ((k : Int) < (n : Int)) = true := by simp; omega
      have mb := mkF_bd f k
      have ev : Hid (wrap64 (f k + 2048) % 4096 - 2048 = mkF f k) := Lib.hid rfl
      have HA := Lib.hid hA
      have HB := Lib.hid hB
      clear hA hB hI
      go_wp2_with (go_at_call 30; refine (Pick_any _ 4096 _ (by omega) (by omega)).mono ?_; rintro e w1 ⟨rfl, rfl⟩; have m1 := Int.emod_nonneg (wrap64 (f k + 2048)) (show (4096 : Int) ≠ 0 by omega); have m2 := Int.emod_lt_of_pos (wrap64 (f k + 2048)) (show (0 : Int) < 4096 by omega))
      go_roundw
      case rel => exact ⟨k + 1, by omega, by go_num, HA.out.fill _ ev.out, HB.out.setCell (p := ⟨w.heap.size, k, none⟩) (Nat.le_refl _) _⟩
      case measure => simp [intOf]; omega
    · have hA' : Arr wr .i64 w.heap.size 64 (mkP n f) := by
        obtain rfl : k = n := by omega
        exact hA
      have d1 : decide ((k : Int) < (n : Int)) = false := by simp; omega
      have HA := Lib.hid hA'
      have HB := Lib.hid hB
      clear hA hB hA' RD
      go_wp2
      go_ret
      exact ⟨_, _, rfl, Nat.le_refl _, HA.out.lt (by omega), Nat.le_refl _, by decide, HA.out, HB.out⟩

theorem line_own (v : Value) (B : Nat) (f : Nat → Int) (w : World) (hb : ∀ i, i < 8 → -1099511627776 ≤ f i ∧ f i ≤ 1099511627776) (hown : w.ownsRow B 3 1 v 8 ((List.range 8).map fun i => .int .i64 (f i))) :
    Calls Try.prog 23 #[v] w fun e w' => ∃ g c, e = .returned (.tuple #[.slice (some ⟨g, 0, none⟩) 8 c, .int .i64 0]) ∧ w.heap.size ≤ g ∧ g < w'.heap.size ∧ Arr w' .i64 g 8 (lineC f) ∧ Below w.heap.size w w' := by
  refine (Line_any v 8 f w (Res.of_own hown).sl).mono ?_
  rintro e w' ⟨v', rfl, hR, hB⟩
  have hk : okL f 8 = true := okR_all hb
  have e1 : lE 8 f = 0 := by unfold lE; rw [if_pos rfl, hk]; rfl
  have e2 : lN 8 f = 8 := by unfold lN; rw [if_pos rfl, hk]; rfl
  rw [e1]
  rw [e2] at hR
  rcases hR with ⟨h0, _⟩ | ⟨g, c, rfl, r1, r2, r3, r4, r5⟩
  · exact absurd h0 (by decide)
  · exact ⟨g, c, rfl, r1, r2, r5, hB⟩
/-- what lines comes to. -/
def Lined (w : World) (f : Nat → Int) (e : Ending) (w' : World) : Prop :=
  ∃ g c, e = .returned (.tuple #[.slice (some ⟨g, 0, none⟩) 64 c, .bool true]) ∧ w.heap.size ≤ g ∧ g < w'.heap.size ∧ 64 ≤ c ∧ c ≤ maxLen ∧ Arr w' .i64 g 64 f ∧ Below w.heap.size w w'

set_option maxRecDepth 100000 in
set_option maxHeartbeats 4000000 in
theorem lines_rows (b c : Nat) (f : Nat → Int) (w : World) (h : Arr w .i64 b 64 f) (hf : ∀ i, i < 64 → -1099511627776 ≤ f i ∧ f i ≤ 1099511627776) :
    Calls Try.prog 29 #[.slice (some ⟨b, 0, none⟩) 64 c, .bool false] w (Lined w (rowsC f)) := by
  have hmk := make64c
  obtain ⟨i0, hi, hz0, hz1, hz2⟩ := info_parts info_intR
  have hblt := h.lt (by omega)
  have H := Lib.hid h
  have HF := Lib.hid hf
  have M0 := Lib.hid (Arr.new w .i64 (rowOf .i64 64 (fun _ => 0)) 3 64 (fun _ => 0) (fun i hi => rowOf_get _ _ _ _ hi))
  clear h hf
  go_enter Try.func29, Try.ntmps29
  go_wp2
  clear hmk
  go_loopw [7] (fun i wr => ∃ y : Nat, y ≤ 8 ∧ i = .int .i64 y ∧ Arr wr .i64 w.heap.size 64 (fun i => if i < 8 * y then rowsC f i else 0) ∧ Below w.heap.size w wr) (fun i _ => 8 - (intOf i).toNat)
  case atStart => exact ⟨0, by omega, rfl, M0.out.congr (fun i _ => by rw [if_neg (by omega)]), (Below.refl _ _).alloc (Nat.le_refl _) _⟩
  case round =>
    obtain ⟨y, hy, rfl, hA, hB⟩ := hrel
    by_cases hy8 : y < 8
    · obtain ⟨wo, rfl⟩ : ∃ wo : World, wo = wr := ⟨_, rfl⟩
      have hlo := hA.lt (by omega)
      have blo : b < wo.heap.size := Nat.lt_of_lt_of_le hblt hB.size
      have HX := Lib.hid (H.out.below hB hblt)
      have HA := Lib.hid hA
      have HB := Lib.hid hB
      have yb : (0 : Int) ≤ (y : Int) ∧ (y : Int) < 8 := by omega
      clear hA hB
      go_wp2
      go_loopw [10, 11] (fun v i wr => ∃ x : Nat, x ≤ 8 ∧ i = .int .i64 x ∧ wr.ownsRow wo.heap.size 3 1 v x ((List.range x).map fun i => .int .i64 (f (8 * y + i))) ∧ Below wo.heap.size wo wr) (fun _ i _ => 8 - (intOf i).toNat)
      case atStart => exact ⟨0, by omega, rfl, World.ownsRow_nil _ _ _ _, Below.refl _ _⟩
      case round =>
        obtain ⟨x, hx, rfl, hown, hB⟩ := hrel
        by_cases hx8 : x < 8
        · have cx := (HX.out.below hB blo (8 * y + x) (by omega)).1
          have fx := HF.out (8 * y + x) (by omega)
          have xb : (0 : Int) ≤ (x : Int) ∧ (x : Int) < 8 := by omega
          have sz := hB.size
          have HBi := Lib.hid hB
          have OWN := Lib.hid hown
          clear hB hown
          go_wp2_with (at_builtin; refine wpList_append_own _ rfl _ _ 22 rfl wo.heap.size 3 i0 (.int .i64 0) 1 8 Try.underlying22 hi hz0 hz1 hz2 rfl (by decide) _ _ _ rfl (OWN.out.alloc _) ⟨wr.heap.size, 0, none⟩ 1 1 [.int .i64 (f (8 * y + x))] rfl rfl (cell_one_new _ _ _) (by simp [Value.oneCell']) (by unfold maxLen; omega) (by omega) (by simp; omega) ?_; intro v' w1 hown2 hgr hnil)
          have hB1 : Below wo.heap.size wo w1 := (HBi.out.alloc sz (.cells #[.int .i64 (f (8 * y + x))] 3)).grown hgr (by simp; omega) (fun q hq => (OWN.out.lt q hq).1)
          have hown3 : w1.ownsRow wo.heap.size 3 1 v' (x + 1) ((List.range (x + 1)).map fun i => .int .i64 (f (8 * y + i))) := by rw [← range_snoc]; exact hown2
          clear hown2 hgr hnil
          go_roundw
          case rel => exact ⟨x + 1, by omega, by go_num, hown3, hB1⟩
          case measure => simp [intOf]; omega
        · have hown8 : wr.ownsRow wo.heap.size 3 1 u10 8 ((List.range 8).map fun i => .int .i64 (f (8 * y + i))) := by
            obtain rfl : x = 8 := by omega
            exact hown
          have hx' : 8 ≤ x := by omega
          have OWN := Lib.hid hown8
          have HBi := Lib.hid hB
          have BF : Hid (∀ i, i < 8 → -1099511627776 ≤ f (8 * y + i) ∧ f (8 * y + i) ≤ 1099511627776) := Lib.hid (fun i hi => HF.out _ (by omega))
          clear hown hown8 hB hx hx8
          go_wp2_with (go_at_call 23; refine (line_own _ _ (fun i => f (8 * y + i)) _ BF.out OWN.out).mono ?_; rintro e w1 ⟨gm, cm, rfl, m1, m2, m3, m4⟩)
          have hB1 : Below wo.heap.size wo w1 := HBi.out.trans (m4.mono HBi.out.size)
          have HA1 := Lib.hid (HA.out.below hB1 hlo)
          have HB1 := Lib.hid (HB.out.trans (hB1.mono HB.out.size))
          have HM := Lib.hid m3
          have gmN : gm ≠ w.heap.size := by have := HBi.out.size; omega
          have lo1 : w.heap.size < w1.heap.size := Nat.lt_of_lt_of_le hlo hB1.size
          clear m3 m4 hB1
          obtain ⟨wn, rfl⟩ : ∃ wn : World, wn = wr := ⟨_, rfl⟩
          go_loopw [14] (fun i wr => ∃ x : Nat, x ≤ 8 ∧ i = .int .i64 x ∧ Arr wr .i64 w.heap.size 64 (fun i => if i < 8 * y + x then rowsC f i else 0) ∧ Arr wr .i64 gm 8 (lineC fun i => f (8 * y + i)) ∧ Below w.heap.size w wr) (fun i _ => 8 - (intOf i).toNat)
          case atStart => exact ⟨0, by omega, rfl, HA1.out.congr (fun i _ => by by_cases e : i < 8 * y <;> simp [e]), HM.out, HB1.out⟩
          case round =>
            obtain ⟨z, hz, rfl, hA, hM, hB⟩ := hrel
            by_cases hz8 : z < 8
            · have cz := hA (8 * y + z) (by omega)
              have cm := (hM z hz8).1
              have zb : (0 : Int) ≤ (z : Int) ∧ (z : Int) < 8 := by omega
              have gv : Hid (lineC (fun i => f (8 * y + i)) z = rowsC f (8 * y + z)) := by
                show _ = _
                unfold rowsC
                have e1 : (8 * y + z) / 8 = y := by omega
                have e2 : (8 * y + z) % 8 = z := by omega
                rw [e1, e2]
                unfold lineC
                rfl
              have HA := Lib.hid hA
              have HM := Lib.hid hM
              have HB := Lib.hid hB
              clear hA hM hB
              go_wp2
              go_roundw
              case rel =>
                refine ⟨z + 1, by omega, by go_num, (HA.out.set (8 * y + z) _).congr (fun i hi => ?_), HM.out.far (a := ⟨w.heap.size, 8 * y + z, none⟩) (fun e => gmN e.symm) _, HB.out.setCell (Nat.le_refl _) _⟩
                by_cases e : i = 8 * y + z
                · subst e
                  rw [if_pos rfl, if_pos (by omega), gv.out]
                · rw [if_neg e]
                  by_cases e2 : i < 8 * y + z
                  · rw [if_pos e2, if_pos (by omega)]
                  · rw [if_neg e2, if_neg (by omega)]
              case measure => simp [intOf]; omega
            · have hA8 : Arr wr .i64 w.heap.size 64 (fun i => if i < 8 * (y + 1) then rowsC f i else 0) := by
                obtain rfl : z = 8 := by omega
                refine hA.congr fun i hi => ?_
                by_cases e2 : i < 8 * (y + 1)
                · rw [if_pos e2, if_pos (by omega)]
                · rw [if_neg e2, if_neg (by omega)]
              have hz' : 8 ≤ z := by omega
              have HA := Lib.hid hA8
              have HB := Lib.hid hB
              clear hA hM hB hA8 hz hz8
              go_wp2
              go_roundw
              case rel => exact ⟨y + 1, by omega, by go_num, HA.out, HB.out⟩
              case measure => simp [intOf]; omega
    · have hA' : Arr wr .i64 w.heap.size 64 (rowsC f) := by
        obtain rfl : y = 8 := by omega
        exact hA.congr fun i _ => by rw [if_pos (by omega)]
      have hy' : 8 ≤ y := by omega
      have HA := Lib.hid hA'
      have HB := Lib.hid hB
      clear hA hA' hB hy hy8
      go_wp2
      go_ret2
      exact ⟨w.heap.size, 64, rfl, Nat.le_refl _, HA.out.lt (by decide), by decide, by decide, HA.out, HB.out⟩

set_option maxRecDepth 100000 in
set_option maxHeartbeats 4000000 in
theorem lines_cols (b c : Nat) (f : Nat → Int) (w : World) (h : Arr w .i64 b 64 f) (hf : ∀ i, i < 64 → -1099511627776 ≤ f i ∧ f i ≤ 1099511627776) :
    Calls Try.prog 29 #[.slice (some ⟨b, 0, none⟩) 64 c, .bool true] w (Lined w (colsC f)) := by
  have hmk := make64c
  obtain ⟨i0, hi, hz0, hz1, hz2⟩ := info_parts info_intR
  have hblt := h.lt (by omega)
  have H := Lib.hid h
  have HF := Lib.hid hf
  have M0 := Lib.hid (Arr.new w .i64 (rowOf .i64 64 (fun _ => 0)) 3 64 (fun _ => 0) (fun i hi => rowOf_get _ _ _ _ hi))
  clear h hf
  go_enter Try.func29, Try.ntmps29
  go_wp2
  clear hmk
  go_loopw [7] (fun i wr => ∃ y : Nat, y ≤ 8 ∧ i = .int .i64 y ∧ Arr wr .i64 w.heap.size 64 (fun i => if i % 8 < y then colsC f i else 0) ∧ Below w.heap.size w wr) (fun i _ => 8 - (intOf i).toNat)
  case atStart => exact ⟨0, by omega, rfl, M0.out.congr (fun i _ => by rw [if_neg (by omega)]), (Below.refl _ _).alloc (Nat.le_refl _) _⟩
  case round =>
    obtain ⟨y, hy, rfl, hA, hB⟩ := hrel
    by_cases hy8 : y < 8
    · obtain ⟨wo, rfl⟩ : ∃ wo : World, wo = wr := ⟨_, rfl⟩
      have hlo := hA.lt (by omega)
      have blo : b < wo.heap.size := Nat.lt_of_lt_of_le hblt hB.size
      have HX := Lib.hid (H.out.below hB hblt)
      have HA := Lib.hid hA
      have HB := Lib.hid hB
      have yb : (0 : Int) ≤ (y : Int) ∧ (y : Int) < 8 := by omega
      clear hA hB
      go_wp2
      go_loopw [10, 11] (fun v i wr => ∃ x : Nat, x ≤ 8 ∧ i = .int .i64 x ∧ wr.ownsRow wo.heap.size 3 1 v x ((List.range x).map fun i => .int .i64 (f (y + i * 8))) ∧ Below wo.heap.size wo wr) (fun _ i _ => 8 - (intOf i).toNat)
      case atStart => exact ⟨0, by omega, rfl, World.ownsRow_nil _ _ _ _, Below.refl _ _⟩
      case round =>
        obtain ⟨x, hx, rfl, hown, hB⟩ := hrel
        by_cases hx8 : x < 8
        · have cx := (HX.out.below hB blo (y + x * 8) (by omega)).1
          have fx := HF.out (y + x * 8) (by omega)
          have xb : (0 : Int) ≤ (x : Int) ∧ (x : Int) < 8 := by omega
          have sz := hB.size
          have HBi := Lib.hid hB
          have OWN := Lib.hid hown
          clear hB hown
          go_wp2_with (at_builtin; refine wpList_append_own _ rfl _ _ 22 rfl wo.heap.size 3 i0 (.int .i64 0) 1 8 Try.underlying22 hi hz0 hz1 hz2 rfl (by decide) _ _ _ rfl (OWN.out.alloc _) ⟨wr.heap.size, 0, none⟩ 1 1 [.int .i64 (f (y + x * 8))] rfl rfl (cell_one_new _ _ _) (by simp [Value.oneCell']) (by unfold maxLen; omega) (by omega) (by simp; omega) ?_; intro v' w1 hown2 hgr hnil)
          have hB1 : Below wo.heap.size wo w1 := (HBi.out.alloc sz (.cells #[.int .i64 (f (y + x * 8))] 3)).grown hgr (by simp; omega) (fun q hq => (OWN.out.lt q hq).1)
          have hown3 : w1.ownsRow wo.heap.size 3 1 v' (x + 1) ((List.range (x + 1)).map fun i => .int .i64 (f (y + i * 8))) := by rw [← range_snoc]; exact hown2
          clear hown2 hgr hnil
          go_roundw
          case rel => exact ⟨x + 1, by omega, by go_num, hown3, hB1⟩
          case measure => simp [intOf]; omega
        · have hown8 : wr.ownsRow wo.heap.size 3 1 u10 8 ((List.range 8).map fun i => .int .i64 (f (y + i * 8))) := by
            obtain rfl : x = 8 := by omega
            exact hown
          have hx' : 8 ≤ x := by omega
          have OWN := Lib.hid hown8
          have HBi := Lib.hid hB
          have BF : Hid (∀ i, i < 8 → -1099511627776 ≤ f (y + i * 8) ∧ f (y + i * 8) ≤ 1099511627776) := Lib.hid (fun i hi => HF.out _ (by omega))
          clear hown hown8 hB hx hx8
          go_wp2_with (go_at_call 23; refine (line_own _ _ (fun i => f (y + i * 8)) _ BF.out OWN.out).mono ?_; rintro e w1 ⟨gm, cm, rfl, m1, m2, m3, m4⟩)
          have hB1 : Below wo.heap.size wo w1 := HBi.out.trans (m4.mono HBi.out.size)
          have HA1 := Lib.hid (HA.out.below hB1 hlo)
          have HB1 := Lib.hid (HB.out.trans (hB1.mono HB.out.size))
          have HM := Lib.hid m3
          have gmN : gm ≠ w.heap.size := by have := HBi.out.size; omega
          have lo1 : w.heap.size < w1.heap.size := Nat.lt_of_lt_of_le hlo hB1.size
          clear m3 m4 hB1
          obtain ⟨wn, rfl⟩ : ∃ wn : World, wn = wr := ⟨_, rfl⟩
          go_loopw [14] (fun i wr => ∃ x : Nat, x ≤ 8 ∧ i = .int .i64 x ∧ Arr wr .i64 w.heap.size 64 (fun i => if i % 8 < y ∨ (i % 8 = y ∧ i / 8 < x) then colsC f i else 0) ∧ Arr wr .i64 gm 8 (lineC fun i => f (y + i * 8)) ∧ Below w.heap.size w wr) (fun i _ => 8 - (intOf i).toNat)
          case atStart => exact ⟨0, by omega, rfl, HA1.out.congr (fun i _ => by by_cases e : i % 8 < y <;> simp [e]), HM.out, HB1.out⟩
          case round =>
            obtain ⟨z, hz, rfl, hA, hM, hB⟩ := hrel
            by_cases hz8 : z < 8
            · have cz := hA (y + z * 8) (by omega)
              have cm := (hM z hz8).1
              have zb : (0 : Int) ≤ (z : Int) ∧ (z : Int) < 8 := by omega
              have gv : Hid (lineC (fun i => f (y + i * 8)) z = colsC f (y + z * 8)) := by
                show _ = _
                unfold colsC
                have e1 : (y + z * 8) / 8 = z := by omega
                have e2 : (y + z * 8) % 8 = y := by omega
                rw [e1, e2]
                unfold lineC
                exact accW_congr fun j _ => by congr 1; omega
              have HA := Lib.hid hA
              have HM := Lib.hid hM
              have HB := Lib.hid hB
              clear hA hM hB
              go_wp2
              go_roundw
              case rel =>
                refine ⟨z + 1, by omega, by go_num, (HA.out.set (y + z * 8) _).congr (fun i hi => ?_), HM.out.far (a := ⟨w.heap.size, y + z * 8, none⟩) (fun e => gmN e.symm) _, HB.out.setCell (Nat.le_refl _) _⟩
                by_cases e : i = y + z * 8
                · subst e
                  rw [if_pos rfl, if_pos (by omega), gv.out]
                · rw [if_neg e]
                  by_cases e2 : i % 8 < y ∨ (i % 8 = y ∧ i / 8 < z)
                  · rw [if_pos e2, if_pos (by omega)]
                  · rw [if_neg e2, if_neg (by omega)]
              case measure => simp [intOf]; omega
            · have hA8 : Arr wr .i64 w.heap.size 64 (fun i => if i % 8 < y + 1 then colsC f i else 0) := by
                obtain rfl : z = 8 := by omega
                refine hA.congr fun i hi => ?_
                by_cases e2 : i % 8 < y + 1
                · rw [if_pos e2, if_pos (by omega)]
                · rw [if_neg e2, if_neg (by omega)]
              have hz' : 8 ≤ z := by omega
              have HA := Lib.hid hA8
              have HB := Lib.hid hB
              clear hA hM hB hA8 hz hz8
              go_wp2
              go_roundw
              case rel => exact ⟨y + 1, by omega, by go_num, HA.out, HB.out⟩
              case measure => simp [intOf]; omega
    · have hA' : Arr wr .i64 w.heap.size 64 (colsC f) := by
        obtain rfl : y = 8 := by omega
        exact hA.congr fun i _ => by rw [if_pos (by omega)]
      have hy' : 8 ≤ y := by omega
      have HA := Lib.hid hA'
      have HB := Lib.hid hB
      clear hA hA' hB hy hy8
      go_wp2
      go_ret2
      exact ⟨w.heap.size, 64, rfl, Nat.le_refl _, HA.out.lt (by decide), by decide, by decide, HA.out, HB.out⟩
end Co
end Go.Proofs.Ytkeefdlnolcapaa
