/- The document's Soften and Filter. | The document's Filter. -/
import Derived.Test.YtbmglemjfodfhaaGreatMgLoopC
import Derived.Deep.AppendLies
import Derived.Deep.RegionHeld3
set_option linter.unusedVariables false
set_option linter.unusedSimpArgs false
namespace Go.Proofs.YtbmglemjfodfhaaGreat
open Go.RowKit
namespace Lo
theorem rsoften_long (a : Option Addr) (n c : Nat) (f : Nat → Int) (w : World) (h : n ≠ 8) :
    Calls Tryz.prog 149 #[.slice a n c] w (Softens w n f) := by
  have e1 : sE n f = 2 := by unfold sE; rw [if_neg h]
  have e2 : sN n f = 0 := by unfold sN; rw [if_neg h]
  have k : ((n : Int) == 8) = false := by simp; omega
  have E1 := Lib.hid e1
  have E2 := Lib.hid e2
  clear e1 e2
  go_enter Tryz.func149, Tryz.ntmps149
  go_wp2
  go_ret2
  exact ⟨.slice none 0 0, by rw [E1.out]; rfl, by rw [E2.out]; exact .inl ⟨rfl, rfl⟩, Below.refl _ _⟩
set_option maxRecDepth 100000 in
set_option maxHeartbeats 2000000 in
theorem rsoften_row (b o c : Nat) (f : Nat → Int) (w : World) (h : Ints w .i64 b o 8 f) :
    Calls Tryz.prog 149 #[.slice (some ⟨b, o, none⟩) 8 c] w (Softens w 8 f) := by
  obtain ⟨i0, hi, hz0, hz1, hz2⟩ := info_parts info_int
  have hblt := h.lt (by omega)
  have H := Lib.hid h
  have HE : Hid (sE 8 f = if okS f 8 then 0 else 2) := by show _ = _; unfold sE; rw [if_pos rfl]
  have HN : Hid (sN 8 f = if okS f 8 then 8 else 0) := by show _ = _; unfold sN; rw [if_pos rfl]
  clear h
  go_enter Tryz.func149, Tryz.ntmps149
  go_wp2
  go_loop [4] (fun i => ∃ k : Nat, k ≤ 8 ∧ i = .int .i64 k ∧ okS f k = true) (fun i => 8 - (intOf i).toNat)
  case atStart => exact ⟨0, by omega, rfl, rfl⟩
  case round =>
    obtain ⟨k, hk, rfl, hok⟩ := hrel
    by_cases hk8 : k < 8
    · have ck := H.out.at k hk8
      have kb : (0 : Int) ≤ (k : Int) ∧ (k : Int) < 8 := by omega
      have OK := Lib.hid hok
      clear hok
      cases hkk : inB (f k)
      · have ea := okS_not hk8 hkk
        have EA := Lib.hid ea
        rcases inB_no hkk with g | g
        · have _d : decide (f k < -1099511627776) = true := by simp; omega
          clear hkk ea
          go_wp2
          go_ret2
          exact ⟨.slice none 0 0, by rw [HE.out, EA.out]; rfl, by rw [HN.out, EA.out]; exact .inl ⟨rfl, rfl⟩, Below.refl _ _⟩
        · have _d : decide (f k < -1099511627776) = false := by simp; omega
          have _d2 : decide (1099511627776 < f k) = true := by simp; omega
          clear hkk ea
          go_wp2
          go_ret2
          exact ⟨.slice none 0 0, by rw [HE.out, EA.out]; rfl, by rw [HN.out, EA.out]; exact .inl ⟨rfl, rfl⟩, Below.refl _ _⟩
      · have g := inB_yes hkk
        have _d : decide (f k < -1099511627776) = false := by simp; omega
        have _d2 : decide (1099511627776 < f k) = false := by simp; omega
        have KK := Lib.hid hkk
        clear hkk
        go_wp2
        go_round
        case rel => exact ⟨k + 1, by omega, by go_num, by rw [okS_succ, OK.out, KK.out]; rfl⟩
        case measure => simp [intOf]; omega
    · have hok' : okS f 8 = true := by
        obtain rfl : k = 8 := by omega
        exact hok
      have he : sE 8 f = 0 := by rw [HE.out, hok']; rfl
      have hn : sN 8 f = 8 := by rw [HN.out, hok']; rfl
      have hk' : 8 ≤ k := by omega
      have FB : Hid (∀ i, i < 8 → -1099511627776 ≤ f i ∧ f i ≤ 1099511627776) := Lib.hid (fun i hi => inB_yes (okS_at hok' i hi))
      have c0 := H.out.at 0 (by omega)
      rw [Nat.add_zero] at c0
      have b0 := FB.out 0 (by omega)
      have c7 := H.out.at 7 (by omega)
      have b7 := FB.out 7 (by omega)
      have HE' := Lib.hid he
      have HN' := Lib.hid hn
      clear hok hok' hk hk8 he hn
      go_wp2
      have OW : Hid ((w.alloc (.cells #[.int .i64 (4 * f 0)] 3)).ownsRow w.heap.size 3 1 (.slice (some ⟨w.heap.size, 0, none⟩) 1 1) 1 ((List.range 1).map fun i => .int .i64 (sft f i))) :=
        Lib.hid ⟨rfl, .inr ⟨w.heap.size, 1, #[.int .i64 (4 * f 0)], rfl, Nat.le_refl _, heap_alloc_new w _, Nat.le_refl _, by decide, rfl, rfl⟩⟩
      go_loopw [5, 6] (fun v i wr => ∃ j : Nat, 1 ≤ j ∧ j ≤ 7 ∧ i = .int .i64 j ∧ wr.ownsRow w.heap.size 3 1 v j ((List.range j).map fun i => .int .i64 (sft f i)) ∧ Below w.heap.size w wr) (fun _ i _ => 8 - (intOf i).toNat)
      case atStart => exact ⟨1, by omega, by omega, rfl, OW.out, (Below.refl _ _).alloc (Nat.le_refl _) _⟩
      case round =>
        obtain ⟨j, hj1, hj7, rfl, hown, hB⟩ := hrel
        by_cases hj : j < 7
        · have HX := H.out.below hB hblt
          have cl := HX.at (j - 1) (by omega)
          have cm := HX.at j (by omega)
          have cr := HX.at (j + 1) (by omega)
          have bl := FB.out (j - 1) (by omega)
          have bm := FB.out j (by omega)
          have br := FB.out (j + 1) (by omega)
          have gv : Hid (f (j - 1) + 2 * f j + f (j + 1) = sft f j) := by show _ = _; unfold sft; rw [if_neg (by omega)]
          have HB := Lib.hid hB
          have OWN := Lib.hid hown
          clear HX hB hown
          have hb2 : b < wr.heap.size := Nat.lt_of_lt_of_le hblt HB.out.size
          have lej : w.heap.size ≤ wr.heap.size := HB.out.size
          have hown1 := OWN.out
          have hne : u5.ownBlock ≠ some b := fun e => by have := (hown1.lt b e).1; omega
          have q1 : (0 : Int) ≤ (j : Int) - 1 := by omega
          have q0 : (1 : Int) ≤ (j : Int) := by omega
          have q2 : (j : Int) - 1 < 8 := by omega
          have q3 : (0 : Int) ≤ (j : Int) + 1 := by omega
          have q4 : (j : Int) + 1 < 8 := by omega
          have q5 : (0 : Int) ≤ (j : Int) := by omega
          have q6 : (j : Int) < 8 := by omega
          have y1 : ((j : Int) - 1).toNat = j - 1 := by omega
          have y2 : ((j : Int) + 1).toNat = j + 1 := by omega
          have z1 : j + 1 ≤ maxLen := by unfold maxLen; omega
          have z2 : (j + 1) * 8 ≤ 140737488355328 := by omega
          have z3 : w.heap.size ≤ wr.heap.size + 1 := by omega
          have x1 : IntKind.i64.wrap ((j : Int) - 1) = (j : Int) - 1 := IntWalk.i64_in _ (by omega)
          have x2 : IntKind.i64.wrap ((j : Int) + 1) = (j : Int) + 1 := IntWalk.i64_in _ (by omega)
          have x3 : IntKind.i64.wrap (2 * f j) = 2 * f j := IntWalk.i64_in _ (by omega)
          have x4 : IntKind.i64.wrap (f (j - 1) + 2 * f j) = f (j - 1) + 2 * f j := IntWalk.i64_in _ (by omega)
          have x5 : IntKind.i64.wrap (f (j - 1) + 2 * f j + f (j + 1)) = f (j - 1) + 2 * f j + f (j + 1) := IntWalk.i64_in _ (by omega)
          go_wp2_with fail
          go_region_held3 (fun w' => w'.cell? ⟨b, o + (j - 1), none⟩ = some (.int .i64 (f (j - 1))) ∧ w'.cell? ⟨b, o + j, none⟩ = some (.int .i64 (f j)) ∧ w'.cell? ⟨b, o + (j + 1), none⟩ = some (.int .i64 (f (j + 1))))
            (first
              | exact ⟨cl, cm, cr⟩
              | go_keep
              | (go_split_ands; refine ⟨?_, ?_, ?_⟩ <;> ((rw [hgrow.cell_far _ (by simp; omega) (Ne.symm hne)]; assumption))))
            ((refine step_append_lies _ (by rfl) _ _ _ (by rfl) w.heap.size 3 i0 _ 1 8 Tryz.underlying87 hi hz0 hz1 hz2 rfl (by omega) u5 j ((List.range j).map fun i => .int .i64 (sft f i)) (by rfl) ((hown1.alloc _).drew) ⟨wr.heap.size, 0, none⟩ 1 1 [.int .i64 (f (j - 1) + 2 * f j + f (j + 1))] (by rfl) (by rfl) (World.news_of_block (cs := #[.int .i64 (f (j - 1) + 2 * f j + f (j + 1))]) (t := 3) (fr := (0, 0)) (heap_alloc_new wr _)) (by simp [Value.oneCell']) (by omega) z1 z2 (by simp; omega) (wr.heap.size + 1) (by simp) ?_; intro gg cap w1 hown2 hgrow hat hlt))
          have hB1 : Below w.heap.size w w1 := ((HB.out.alloc lej (.cells #[.int .i64 (f (j - 1) + 2 * f j + f (j + 1))] 3)).drew).grown hgrow (by simp; omega) (fun q hq => (hown1.lt q hq).1)
          have hown3 : w1.ownsRow w.heap.size 3 1 (.slice (some ⟨gg, 0, none⟩) (j + 1) cap) (j + 1) ((List.range (j + 1)).map fun i => .int .i64 (sft f i)) := by rw [← range_snoc, ← gv.out]; exact hown2
          clear hown1 hown2 hgrow hat x1 x2 x3 x4 x5 y1 y2
          go_wp2
          go_roundw
          case rel => exact ⟨j + 1, by omega, by omega, by go_num, hown3, hB1⟩
          case measure => simp [intOf]; omega
        · have cx := (H.out.below hB hblt).at 7 (by omega)
          have hown1 : wr.ownsRow w.heap.size 3 1 u5 7 ((List.range 7).map fun i => .int .i64 (sft f i)) := by
            obtain rfl : j = 7 := by omega
            exact hown
          have gv : Hid (4 * f 7 = sft f 7) := by show _ = _; unfold sft; rw [if_pos (by omega)]
          have hj' : 7 ≤ j := by omega
          have HB := Lib.hid hB
          have OWN := Lib.hid hown1
          have lej := hB.size
          clear hB hown hown1 hj1 hj7 hj
          go_wp2_with (at_builtin; refine wpList_append_own _ rfl _ _ 87 rfl w.heap.size 3 i0 (.int .i64 0) 1 8 Tryz.underlying87 hi hz0 hz1 hz2 rfl (by decide) _ _ _ rfl (OWN.out.alloc _) ⟨wr.heap.size, 0, none⟩ 1 1 [.int .i64 (4 * f 7)] rfl rfl (cell_one_new _ _ _) (by simp [Value.oneCell']) (by decide) (by decide) (by simp; omega) ?_; intro v' w1 hown2 hgr hnil)
          have hB1 : Below w.heap.size w w1 := (HB.out.alloc lej (.cells #[.int .i64 (4 * f 7)] 3)).grown hgr (by simp; omega) (fun q hq => (OWN.out.lt q hq).1)
          have hown3 : w1.ownsRow w.heap.size 3 1 v' 8 ((List.range 8).map fun i => .int .i64 (sft f i)) := by rw [← range_snoc, ← gv.out]; exact hown2
          have HB1 := Lib.hid hB1
          have HR := Lib.hid (Res.of_own hown3)
          clear hB1 hown3 hown2 hgr hnil
          go_wp2
          go_ret2
          exact ⟨v', by rw [HE'.out]; rfl, by rw [HN'.out]; exact HR.out, HB1.out⟩
theorem rSoften_any (v : Value) (n : Nat) (f : Nat → Int) (w : World) (hs : Sl .i64 w v n f) :
    Calls Tryz.prog 149 #[v] w (Softens w n f) := by
  obtain ⟨a, c, rfl, h1, h2, h3⟩ := hs
  by_cases h : n = 8
  · subst h
    rcases h3 with ⟨h3, _⟩ | ⟨b, o, rfl, _, h4⟩
    · omega
    · exact rsoften_row b o c f w h4
  · exact rsoften_long a n c f w h
end Lo
end Go.Proofs.YtbmglemjfodfhaaGreat
namespace Go.Proofs.YtbmglemjfodfhaaGreat
open Go.RowKit
namespace Lo
theorem okS_all {f : Nat → Int} {k : Nat} (h : ∀ i, 0 ≤ f i ∧ f i ≤ 4000) : okS f k = true := by
  unfold okS; rw [List.all_eq_true]; intro i _
  have := h i
  unfold inB; simp; omega
theorem rsoften_own (v : Value) (B : Nat) (f : Nat → Int) (w : World) (hb : ∀ i, 0 ≤ f i ∧ f i ≤ 4000) (hown : w.ownsRow B 3 1 v 8 ((List.range 8).map fun i => .int .i64 (f i))) :
    Calls Tryz.prog 149 #[v] w fun e w' => ∃ g c, e = .returned (.tuple #[.slice (some ⟨g, 0, none⟩) 8 c, .int .i64 0]) ∧ w.heap.size ≤ g ∧ g < w'.heap.size ∧ Arr w' .i64 g 8 (sft f) ∧ Below w.heap.size w w' := by
  refine (rSoften_any v 8 f w (Res.of_own hown).sl).mono ?_
  rintro e w' ⟨v1, rfl, hR, hB⟩
  have e1 : sE 8 f = 0 := by unfold sE; rw [if_pos rfl, okS_all hb]; rfl
  have e2 : sN 8 f = 8 := by unfold sN; rw [if_pos rfl, okS_all hb]; rfl
  rw [e2] at hR
  rw [e1]
  rcases hR with ⟨h0, _⟩ | ⟨g, c, rfl, r1, r2, r3, r4, r5⟩
  · exact absurd h0 (by decide)
  · exact ⟨g, c, rfl, r1, r2, r5, hB⟩
set_option maxRecDepth 100000 in
set_option maxHeartbeats 4000000 in
theorem rfilter_row (b o c : Nat) (f : Nat → Int) (w : World) (h : Ints w .u8 b o 64 f) (hf : ∀ i, 0 ≤ f i ∧ f i ≤ 255) :
    Calls Tryz.prog 109 #[.slice (some ⟨b, o, none⟩) 64 c] w fun e w' => ∃ g c', e = .returned (.tuple #[.slice (some ⟨g, 0, none⟩) 64 c', .int .i64 0]) ∧ w.heap.size ≤ g ∧ g < w'.heap.size ∧ 64 ≤ c' ∧ c' ≤ maxLen ∧ Arr w' .u8 g 64 (filt f) ∧ Below w.heap.size w w' := by
  obtain ⟨i0, hi, hz0, hz1, hz2⟩ := info_parts info_int
  have hblt := h.lt (by omega)
  have H := Lib.hid h
  have HF := Lib.hid hf
  clear h hf
  go_enter Tryz.func109, Tryz.ntmps109
  go_wp2
  go_loopw [5] (fun i wr => ∃ y : Nat, y ≤ 8 ∧ i = .int .i64 y ∧ Arr wr .i64 w.heap.size 64 (fun i => if i < 8 * y then rowsF f i else 0) ∧ Below w.heap.size w wr) (fun i _ => 8 - (intOf i).toNat)
  case atStart => exact ⟨0, by omega, rfl, (made w .i64 126 64 (fun _ => 0)).congr (fun i _ => by rw [if_neg (by omega)]), (Below.refl _ _).alloc (Nat.le_refl _) _⟩
  case round =>
    obtain ⟨y, hy, rfl, hA, hB⟩ := hrel
    by_cases hy8 : y < 8
    · obtain ⟨wo, rfl⟩ : ∃ wo : World, wo = wr := ⟨_, rfl⟩
      have hlo := hA.lt (by omega)
      have blo : b < wo.heap.size := Nat.lt_of_lt_of_le hblt hB.size
      have HX := Lib.hid (H.out.below hB hblt)
      have HA := Lib.hid hA
      have HB := Lib.hid hB
      have yb : (0 : Int) ≤ (y : Int) ∧ (y : Int) < 8 := by omega
      clear hA hB
      go_wp2
      go_loopw [6, 7] (fun v i wr => ∃ x : Nat, x ≤ 8 ∧ i = .int .i64 x ∧ wr.ownsRow wo.heap.size 3 1 v x ((List.range x).map fun i => .int .i64 (f (8 * y + i))) ∧ Below wo.heap.size wo wr) (fun _ i _ => 8 - (intOf i).toNat)
      case atStart => exact ⟨0, by omega, rfl, World.ownsRow_nil _ _ _ _, Below.refl _ _⟩
      case round =>
        obtain ⟨x, hx, rfl, hown, hB⟩ := hrel
        by_cases hx8 : x < 8
        · have cx := (HX.out.below hB blo).at (8 * y + x) (by omega)
          have fx := HF.out (8 * y + x)
          have xb : (0 : Int) ≤ (x : Int) ∧ (x : Int) < 8 := by omega
          have sz := hB.size
          have HBi := Lib.hid hB
          have OWN := Lib.hid hown
          clear hB hown
          go_wp2_with (at_builtin; refine wpList_append_own _ rfl _ _ 87 rfl wo.heap.size 3 i0 (.int .i64 0) 1 8 Tryz.underlying87 hi hz0 hz1 hz2 rfl (by decide) _ _ _ rfl (OWN.out.alloc _) ⟨wr.heap.size, 0, none⟩ 1 1 [.int .i64 (f (8 * y + x))] rfl rfl (cell_one_new _ _ _) (by simp [Value.oneCell']) (by unfold maxLen; omega) (by omega) (by simp; omega) ?_; intro v' w1 hown2 hgr hnil)
          have hB1 : Below wo.heap.size wo w1 := (HBi.out.alloc sz (.cells #[.int .i64 (f (8 * y + x))] 3)).grown hgr (by simp; omega) (fun q hq => (OWN.out.lt q hq).1)
          have hown3 : w1.ownsRow wo.heap.size 3 1 v' (x + 1) ((List.range (x + 1)).map fun i => .int .i64 (f (8 * y + i))) := by rw [← range_snoc]; exact hown2
          clear hown2 hgr hnil
          go_roundw
          case rel => exact ⟨x + 1, by omega, by go_num, hown3, hB1⟩
          case measure => simp [intOf]; omega
        · have hown8 : wr.ownsRow wo.heap.size 3 1 u6 8 ((List.range 8).map fun i => .int .i64 (f (8 * y + i))) := by
            obtain rfl : x = 8 := by omega
            exact hown
          have hx' : 8 ≤ x := by omega
          have OWN := Lib.hid hown8
          have HBi := Lib.hid hB
          have BF : Hid (∀ i, 0 ≤ f (8 * y + i) ∧ f (8 * y + i) ≤ 4000) := Lib.hid (fun i => by have := HF.out (8 * y + i); omega)
          clear hown hown8 hB hx hx8
          go_wp2_with (go_at_call 149; refine (rsoften_own _ _ (fun i => f (8 * y + i)) _ BF.out OWN.out).mono ?_; rintro e w1 ⟨gm, cm, rfl, m1, m2, m3, m4⟩)
          have hB1 : Below wo.heap.size wo w1 := HBi.out.trans (m4.mono HBi.out.size)
          have HA1 := Lib.hid (HA.out.below hB1 hlo)
          have HB1 := Lib.hid (HB.out.trans (hB1.mono HB.out.size))
          have HM := Lib.hid m3
          have gmN : gm ≠ w.heap.size := by have := HBi.out.size; omega
          have lo1 : w.heap.size < w1.heap.size := Nat.lt_of_lt_of_le hlo hB1.size
          clear m3 m4 hB1
          obtain ⟨wn, rfl⟩ : ∃ wn : World, wn = wr := ⟨_, rfl⟩
          go_loopw [10] (fun i wr => ∃ x : Nat, x ≤ 8 ∧ i = .int .i64 x ∧ Arr wr .i64 w.heap.size 64 (fun i => if i < 8 * y + x then rowsF f i else 0) ∧ Arr wr .i64 gm 8 (sft fun i => f (8 * y + i)) ∧ Below w.heap.size w wr) (fun i _ => 8 - (intOf i).toNat)
          case atStart => exact ⟨0, by omega, rfl, HA1.out, HM.out, HB1.out⟩
          case round =>
            obtain ⟨z, hz, rfl, hA, hM, hB⟩ := hrel
            by_cases hz8 : z < 8
            · have cz := hA (8 * y + z) (by omega)
              have cm := (hM z hz8).1
              have zb : (0 : Int) ≤ (z : Int) ∧ (z : Int) < 8 := by omega
              have gv : Hid (sft (fun i => f (8 * y + i)) z = rowsF f (8 * y + z)) := by
                show _ = _
                unfold rowsF
                have e1 : (8 * y + z) / 8 = y := by omega
                have e2 : (8 * y + z) % 8 = z := by omega
                rw [e1, e2]
              have HA := Lib.hid hA
              have HM := Lib.hid hM
              have HB := Lib.hid hB
              clear hA hM hB
              go_wp2
              go_roundw
              case rel => exact ⟨z + 1, by omega, by go_num, by rw [← Nat.add_assoc]; exact HA.out.fill _ gv.out, HM.out.far (a := ⟨w.heap.size, 8 * y + z, none⟩) (fun e => gmN e.symm) _, HB.out.setCell (Nat.le_refl _) _⟩
              case measure => simp [intOf]; omega
            · have hA8 : Arr wr .i64 w.heap.size 64 (fun i => if i < 8 * (y + 1) then rowsF f i else 0) := by
                obtain rfl : z = 8 := by omega
                exact hA
              have hz' : 8 ≤ z := by omega
              have HA := Lib.hid hA8
              have HB := Lib.hid hB
              clear hA hM hB hA8 hz hz8
              go_wp2
              go_roundw
              case rel => exact ⟨y + 1, by omega, by go_num, HA.out, HB.out⟩
              case measure => simp [intOf]; omega
    · have hA' : Arr wr .i64 w.heap.size 64 (rowsF f) := by
        obtain rfl : y = 8 := by omega
        exact hA.filled
      have hy' : 8 ≤ y := by omega
      have hlo := hA'.lt (by omega)
      have hmk := make64b
      have HA := Lib.hid (hA'.alloc (.cells (rowOf .u8 64 (fun _ => 0)) 5))
      have HB := Lib.hid (hB.alloc hB.size (.cells (rowOf .u8 64 (fun _ => 0)) 5))
      have M0 := Lib.hid (made wr .u8 5 64 (fun _ => 0))
      have hsz3 := hB.size
      clear hA hA' hB hy hy8
      go_wp2
      clear hmk
      obtain ⟨w3, rfl⟩ : ∃ w3 : World, w3 = wr := ⟨_, rfl⟩
      have MS := Lib.hid (show w.heap.size ≤ w3.heap.size from hsz3)
      clear hsz3
      go_loopw [12] (fun i wr => ∃ x : Nat, x ≤ 8 ∧ i = .int .i64 x ∧ Arr wr .i64 w.heap.size 64 (rowsF f) ∧ Arr wr .u8 w3.heap.size 64 (fun i => if i % 8 < x then filt f i else 0) ∧ Below w.heap.size w wr) (fun i _ => 8 - (intOf i).toNat)
      case atStart => exact ⟨0, by omega, rfl, HA.out, M0.out.congr (fun i _ => by rw [if_neg (by omega)]), HB.out⟩
      case round =>
        obtain ⟨x, hx, rfl, hA, hO, hB⟩ := hrel
        by_cases hx8 : x < 8
        · obtain ⟨wo, rfl⟩ : ∃ wo : World, wo = wr := ⟨_, rfl⟩
          have hlo := hA.lt (by omega)
          have hlo3 := hO.lt (by omega)
          have HA := Lib.hid hA
          have HO := Lib.hid hO
          have HB := Lib.hid hB
          have xb : (0 : Int) ≤ (x : Int) ∧ (x : Int) < 8 := by omega
          clear hA hB hO
          go_wp2
          go_loopw [13, 14] (fun v i wr => ∃ y : Nat, y ≤ 8 ∧ i = .int .i64 y ∧ wr.ownsRow wo.heap.size 3 1 v y ((List.range y).map fun i => .int .i64 (rowsF f (8 * i + x))) ∧ Below wo.heap.size wo wr) (fun _ i _ => 8 - (intOf i).toNat)
          case atStart => exact ⟨0, by omega, rfl, World.ownsRow_nil _ _ _ _, Below.refl _ _⟩
          case round =>
            obtain ⟨y, hy, rfl, hown, hB⟩ := hrel
            by_cases hy8 : y < 8
            · have cx := (HA.out.below hB hlo (8 * y + x) (by omega)).1
              have yb : (0 : Int) ≤ (y : Int) ∧ (y : Int) < 8 := by omega
              have sz := hB.size
              have HBi := Lib.hid hB
              have OWN := Lib.hid hown
              clear hB hown
              go_wp2_with (at_builtin; refine wpList_append_own _ rfl _ _ 87 rfl wo.heap.size 3 i0 (.int .i64 0) 1 8 Tryz.underlying87 hi hz0 hz1 hz2 rfl (by decide) _ _ _ rfl (OWN.out.alloc _) ⟨wr.heap.size, 0, none⟩ 1 1 [.int .i64 (rowsF f (8 * y + x))] rfl rfl (cell_one_new _ _ _) (by simp [Value.oneCell']) (by unfold maxLen; omega) (by omega) (by simp; omega) ?_; intro v' w1 hown2 hgr hnil)
              have hB1 : Below wo.heap.size wo w1 := (HBi.out.alloc sz (.cells #[.int .i64 (rowsF f (8 * y + x))] 3)).grown hgr (by simp; omega) (fun q hq => (OWN.out.lt q hq).1)
              have hown3 : w1.ownsRow wo.heap.size 3 1 v' (y + 1) ((List.range (y + 1)).map fun i => .int .i64 (rowsF f (8 * i + x))) := by rw [← range_snoc]; exact hown2
              clear hown2 hgr hnil
              go_roundw
              case rel => exact ⟨y + 1, by omega, by go_num, hown3, hB1⟩
              case measure => simp [intOf]; omega
            · have hown8 : wr.ownsRow wo.heap.size 3 1 u13 8 ((List.range 8).map fun i => .int .i64 (rowsF f (8 * i + x))) := by
                obtain rfl : y = 8 := by omega
                exact hown
              have hy' : 8 ≤ y := by omega
              have OWN := Lib.hid hown8
              have HBi := Lib.hid hB
              have BF : Hid (∀ i, 0 ≤ rowsF f (8 * i + x) ∧ rowsF f (8 * i + x) ≤ 4000) := Lib.hid (fun i => by have := rowsF_bd f HF.out (8 * i + x); omega)
              clear hown hown8 hB hy hy8
              go_wp2_with (go_at_call 149; refine (rsoften_own _ _ (fun i => rowsF f (8 * i + x)) _ BF.out OWN.out).mono ?_; rintro e w1 ⟨gm, cm, rfl, m1, m2, m3, m4⟩)
              have hB1 : Below wo.heap.size wo w1 := HBi.out.trans (m4.mono HBi.out.size)
              have HA1 := Lib.hid (HA.out.below hB1 hlo)
              have HO1 := Lib.hid (HO.out.below hB1 hlo3)
              have HB1 := Lib.hid (HB.out.trans (hB1.mono HB.out.size))
              have HM := Lib.hid m3
              have gm3 : gm ≠ w3.heap.size := by have := HBi.out.size; omega
              have lo1 : w.heap.size < w1.heap.size := Nat.lt_of_lt_of_le hlo hB1.size
              clear m3 m4 hB1
              obtain ⟨wn, rfl⟩ : ∃ wn : World, wn = wr := ⟨_, rfl⟩
              go_loopw [17] (fun i wr => ∃ y : Nat, y ≤ 8 ∧ i = .int .i64 y ∧ Arr wr .i64 w.heap.size 64 (rowsF f) ∧ Arr wr .u8 w3.heap.size 64 (fun i => if i % 8 < x ∨ (i % 8 = x ∧ i / 8 < y) then filt f i else 0) ∧ Arr wr .i64 gm 8 (sft fun i => rowsF f (8 * i + x)) ∧ Below w.heap.size w wr) (fun i _ => 8 - (intOf i).toNat)
              case atStart => exact ⟨0, by omega, rfl, HA1.out, HO1.out.congr (fun i _ => by by_cases e : i % 8 < x <;> simp [e]), HM.out, HB1.out⟩
              case round =>
                obtain ⟨z, hz, rfl, hA, hO, hM, hB⟩ := hrel
                by_cases hz8 : z < 8
                · have cz := hO (8 * z + x) (by omega)
                  have cm := (hM z hz8).1
                  have zb : (0 : Int) ≤ (z : Int) ∧ (z : Int) < 8 := by omega
                  have ev : sft (fun i => rowsF f (8 * i + x)) z = colsF (rowsF f) (8 * z + x) := by
                    unfold colsF
                    have e1 : (8 * z + x) / 8 = z := by omega
                    have e2 : (8 * z + x) % 8 = x := by omega
                    rw [e1, e2]
                  have bv := colsF_bd f HF.out (8 * z + x)
                  rw [← ev] at bv
                  have gv : Hid ((sft (fun i => rowsF f (8 * i + x)) z + 8) / 16 = filt f (8 * z + x)) := by show _ = _; rw [ev]; rfl
                  have HA := Lib.hid hA
                  have HO := Lib.hid hO
                  have HM := Lib.hid hM
                  have HB := Lib.hid hB
                  have mne : w3.heap.size ≠ w.heap.size := by have := hlo; have := MS.out; omega
                  clear hA hM hB hO ev
                  go_wp2
                  go_roundw
                  case rel =>
                    refine ⟨z + 1, by omega, by go_num, HA.out.far (a := ⟨w3.heap.size, 8 * z + x, none⟩) mne _, (HO.out.set (8 * z + x) _).congr (fun i hi => ?_), HM.out.far (a := ⟨w3.heap.size, 8 * z + x, none⟩) (fun e => gm3 e.symm) _, HB.out.setCell MS.out _⟩
                    by_cases e : i = 8 * z + x
                    · subst e
                      rw [if_pos rfl, if_pos (by omega), gv.out]
                    · rw [if_neg e]
                      by_cases e2 : i % 8 < x ∨ (i % 8 = x ∧ i / 8 < z)
                      · rw [if_pos e2, if_pos (by omega)]
                      · rw [if_neg e2, if_neg (by omega)]
                  case measure => simp [intOf]; omega
                · have hO8 : Arr wr .u8 w3.heap.size 64 (fun i => if i % 8 < x + 1 then filt f i else 0) := by
                    obtain rfl : z = 8 := by omega
                    refine hO.congr fun i hi => ?_
                    by_cases e2 : i % 8 < x + 1
                    · rw [if_pos e2, if_pos (by omega)]
                    · rw [if_neg e2, if_neg (by omega)]
                  have hz' : 8 ≤ z := by omega
                  have HA := Lib.hid hA
                  have HO := Lib.hid hO8
                  have HB := Lib.hid hB
                  clear hA hM hB hO hO8 hz hz8
                  go_wp2
                  go_roundw
                  case rel => exact ⟨x + 1, by omega, by go_num, HA.out, HO.out, HB.out⟩
                  case measure => simp [intOf]; omega
        · have hO8 : Arr wr .u8 w3.heap.size 64 (filt f) := by
            obtain rfl : x = 8 := by omega
            exact hO.congr fun i _ => by rw [if_pos (by omega)]
          have hx' : 8 ≤ x := by omega
          have HO := Lib.hid hO8
          have HB := Lib.hid hB
          clear hA hO hO8 hB hx hx8
          go_wp2
          go_ret2
          exact ⟨w3.heap.size, 64, rfl, MS.out, HO.out.lt (by decide), by decide, by decide, HO.out, HB.out⟩
theorem rfilter_long (a : Option Addr) (n c : Nat) (f : Nat → Int) (w : World) (h : n ≠ 64) :
    Calls Tryz.prog 109 #[.slice a n c] w (Filters w n f) := by
  have e1 : fE n = 2 := by unfold fE; rw [if_neg h]
  have e2 : fN n = 0 := by unfold fN; rw [if_neg h]
  have k : ((n : Int) == 64) = false := by simp; omega
  have E1 := Lib.hid e1
  have E2 := Lib.hid e2
  clear e1 e2
  go_enter Tryz.func109, Tryz.ntmps109
  go_wp2
  go_ret2
  exact ⟨.slice none 0 0, by rw [E1.out]; rfl, by rw [E2.out]; exact .inl ⟨rfl, rfl⟩, Below.refl _ _⟩
theorem rFilter_any (v : Value) (n : Nat) (f : Nat → Int) (w : World) (hs : Sl .u8 w v n f) (hf : ∀ i, 0 ≤ f i ∧ f i ≤ 255) :
    Calls Tryz.prog 109 #[v] w (Filters w n f) := by
  obtain ⟨a, c, rfl, h1, h2, h3⟩ := hs
  by_cases h : n = 64
  · subst h
    rcases h3 with ⟨h3, _⟩ | ⟨b, o, rfl, _, h4⟩
    · omega
    · exact (rfilter_row b o c f w h4 hf).mono fun e w' ⟨g, c', he, r1, r2, r3, r4, r5, r6⟩ => ⟨_, he, .inr ⟨g, c', rfl, r1, r2, r3, r4, r5⟩, r6⟩
  · exact rfilter_long a n c f w h
end Lo
end Go.Proofs.YtbmglemjfodfhaaGreat
