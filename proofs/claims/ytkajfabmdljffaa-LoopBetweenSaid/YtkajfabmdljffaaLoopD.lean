/- The document's Soften and Filter. -/
import Derived.Test.YtkajfabmdljffaaLoopC
import Derived.Deep.RegionHeld3
import Derived.Deep.AppendLies
namespace Go.Proofs.Ytkajfabmdljffaa
open Go.RowKit
namespace Lo

theorem rsoften_long (a : Option Addr) (n c : Nat) (f : Nat → Int) (w : World) (h : n ≠ 8) :
    Calls Try.prog 39 #[.slice a n c] w (Softens w n f) := by
  have e1 : sE n f = 2 := by unfold sE; rw [if_neg h]
  have e2 : sN n f = 0 := by unfold sN; rw [if_neg h]
  have k : ((n : Int) == 8) = false := by simp; omega
  have E1 := Lib.hid e1
  have E2 := Lib.hid e2
  clear e1 e2
  go_enter Try.func39, Try.ntmps39
  go_wp2
  go_ret2
  exact ⟨.slice none 0 0, by rw [E1.out]; rfl, by rw [E2.out]; exact .inl ⟨rfl, rfl⟩, Below.refl _ _⟩


set_option maxRecDepth 100000 in
set_option maxHeartbeats 2000000 in
theorem rsoften_row (b o c : Nat) (f : Nat → Int) (w : World) (h : Ints w .i64 b o 8 f) :
    Calls Try.prog 39 #[.slice (some ⟨b, o, none⟩) 8 c] w (Softens w 8 f) := by
  obtain ⟨i0, hi, hz0, hz1, hz2⟩ := info_parts info_int
  have hblt := h.lt (by omega)
  have H := Lib.hid h
  have HE : Hid (sE 8 f = if okS f 8 then 0 else 2) := by show _ = _; unfold sE; rw [if_pos rfl]
  have HN : Hid (sN 8 f = if okS f 8 then 8 else 0) := by show _ = _; unfold sN; rw [if_pos rfl]
  clear h
  go_enter Try.func39, Try.ntmps39
  go_wp2
  go_loop [4] (fun i => ∃ k : Nat, k ≤ 8 ∧ i = .int .i64 k ∧ okS f k = true) (fun i => 8 - (intOf i).toNat)
  case atStart => exact ⟨0, by omega, rfl, rfl⟩
  case round =>
    obtain ⟨k, hk, rfl, hok⟩ := hrel
    by_cases hk8 : k < 8
    · have ck := H.out.at k hk8
      have kb : (0 : Int) ≤ (k : Int) ∧ (k : Int) < 8 := by omega
      have OK := Lib.hid hok
      clear hok
      cases hkk : inB (f k)
      · have ea := okS_not hk8 hkk
        have EA := Lib.hid ea
        rcases inB_no hkk with g | g
        · have _d : decide (f k < -1099511627776) = true := by simp; omega
          clear hkk ea
          go_wp2
          go_ret2
          exact ⟨.slice none 0 0, by rw [HE.out, EA.out]; rfl, by rw [HN.out, EA.out]; exact .inl ⟨rfl, rfl⟩, Below.refl _ _⟩
        · have _d : decide (f k < -1099511627776) = false := by simp; omega
          have _d2 : decide (1099511627776 < f k) = true := by simp; omega
          clear hkk ea
          go_wp2
          go_ret2
          exact ⟨.slice none 0 0, by rw [HE.out, EA.out]; rfl, by rw [HN.out, EA.out]; exact .inl ⟨rfl, rfl⟩, Below.refl _ _⟩
      · have g := inB_yes hkk
        have _d : decide (f k < -1099511627776) = false := by simp; omega
        have _d2 : decide (1099511627776 < f k) = false := by simp; omega
        have KK := Lib.hid hkk
        clear hkk
        go_wp2
        go_round
        case rel => exact ⟨k + 1, by omega, by go_num, by rw [okS_succ, OK.out, KK.out]; rfl⟩
        case measure => simp [intOf]; omega
    · have hok' : okS f 8 = true := by
        obtain rfl : k = 8 := by omega
        exact hok
      have he : sE 8 f = 0 := by rw [HE.out, hok']; rfl
      have hn : sN 8 f = 8 := by rw [HN.out, hok']; rfl
      have hk' : 8 ≤ k := by omega
      have FB : Hid (∀ i, i < 8 → -1099511627776 ≤ f i ∧ f i ≤ 1099511627776) := Lib.hid (fun i hi => inB_yes (okS_at hok' i hi))
      have c0 := H.out.at 0 (by omega)
      rw [Nat.add_zero] at c0
      have b0 := FB.out 0 (by omega)
      have c7 := H.out.at 7 (by omega)
      have b7 := FB.out 7 (by omega)
      have HE' := Lib.hid he
      have HN' := Lib.hid hn
      clear hok hok' hk hk8 he hn
      go_wp2
      have OW : Hid ((w.alloc (.cells #[.int .i64 (4 * f 0)] 3)).ownsRow w.heap.size 3 1 (.slice (some ⟨w.heap.size, 0, none⟩) 1 1) 1 ((List.range 1).map fun i => .int .i64 (sft f i))) :=
        Lib.hid ⟨rfl, .inr ⟨w.heap.size, 1, #[.int .i64 (4 * f 0)], rfl, Nat.le_refl _, heap_alloc_new w _, Nat.le_refl _, by decide, rfl, rfl⟩⟩
      go_loopw [5, 6] (fun v i wr => ∃ j : Nat, 1 ≤ j ∧ j ≤ 7 ∧ i = .int .i64 j ∧ wr.ownsRow w.heap.size 3 1 v j ((List.range j).map fun i => .int .i64 (sft f i)) ∧ Below w.heap.size w wr) (fun _ i _ => 8 - (intOf i).toNat)
      case atStart => exact ⟨1, by omega, by omega, rfl, OW.out, (Below.refl _ _).alloc (Nat.le_refl _) _⟩
      case round =>
        obtain ⟨j, hj1, hj7, rfl, hown, hB⟩ := hrel
        by_cases hj : j < 7
        · have HX := H.out.below hB hblt
          have cl := HX.at (j - 1) (by omega)
          have cm := HX.at j (by omega)
          have cr := HX.at (j + 1) (by omega)
          have bl := FB.out (j - 1) (by omega)
          have bm := FB.out j (by omega)
          have br := FB.out (j + 1) (by omega)
          have gv : Hid (f (j - 1) + 2 * f j + f (j + 1) = sft f j) := by show _ = _; unfold sft; rw [if_neg (by omega)]
          have HB := Lib.hid hB
          have OWN := Lib.hid hown
          clear HX hB hown
          have hb2 : b < wr.heap.size := Nat.lt_of_lt_of_le hblt HB.out.size
          have lej : w.heap.size ≤ wr.heap.size := HB.out.size
          have hown1 := OWN.out
          have hne : u5.ownBlock ≠ some b := fun e => by have := (hown1.lt b e).1; omega
          have q1 : (0 : Int) ≤ (j : Int) - 1 := by omega
          have q0 : (1 : Int) ≤ (j : Int) := by omega
          have q2 : (j : Int) - 1 < 8 := by omega
          have q3 : (0 : Int) ≤ (j : Int) + 1 := by omega
          have q4 : (j : Int) + 1 < 8 := by omega
          have q5 : (0 : Int) ≤ (j : Int) := by omega
          have q6 : (j : Int) < 8 := by omega
          have y1 : ((j : Int) - 1).toNat = j - 1 := by omega
          have y2 : ((j : Int) + 1).toNat = j + 1 := by omega
          have z1 : j + 1 ≤ maxLen := by unfold maxLen; omega
          have z2 : (j + 1) * 8 ≤ 140737488355328 := by omega
          have z3 : w.heap.size ≤ wr.heap.size + 1 := by omega
          have x1 : IntKind.i64.wrap ((j : Int) - 1) = (j : Int) - 1 := IntWalk.i64_in _ (by omega)
          have x2 : IntKind.i64.wrap ((j : Int) + 1) = (j : Int) + 1 := IntWalk.i64_in _ (by omega)
          have x3 : IntKind.i64.wrap (2 * f j) = 2 * f j := IntWalk.i64_in _ (by omega)
          have x4 : IntKind.i64.wrap (f (j - 1) + 2 * f j) = f (j - 1) + 2 * f j := IntWalk.i64_in _ (by omega)
          have x5 : IntKind.i64.wrap (f (j - 1) + 2 * f j + f (j + 1)) = f (j - 1) + 2 * f j + f (j + 1) := IntWalk.i64_in _ (by omega)
          go_wp2_with fail
          go_region_held3 (fun w' => w'.cell? ⟨b, o + (j - 1), none⟩ = some (.int .i64 (f (j - 1))) ∧ w'.cell? ⟨b, o + j, none⟩ = some (.int .i64 (f j)) ∧ w'.cell? ⟨b, o + (j + 1), none⟩ = some (.int .i64 (f (j + 1))))
            (first
              | exact ⟨cl, cm, cr⟩
              | go_keep
              | (go_split_ands; refine ⟨?_, ?_, ?_⟩ <;> ((rw [hgrow.cell_far _ (by simp; omega) (Ne.symm hne)]; assumption))))
            ((refine step_append_lies _ (by rfl) _ _ _ (by rfl) w.heap.size 3 i0 _ 1 8 Try.underlying35 hi hz0 hz1 hz2 rfl (by omega) u5 j ((List.range j).map fun i => .int .i64 (sft f i)) (by rfl) ((hown1.alloc _).drew) ⟨wr.heap.size, 0, none⟩ 1 1 [.int .i64 (f (j - 1) + 2 * f j + f (j + 1))] (by rfl) (by rfl) (World.news_of_block (cs := #[.int .i64 (f (j - 1) + 2 * f j + f (j + 1))]) (t := 3) (fr := (0, 0)) (heap_alloc_new wr _)) (by simp [Value.oneCell']) (by omega) z1 z2 (by simp; omega) (wr.heap.size + 1) (by simp) ?_; intro gg cap w1 hown2 hgrow hat hlt))
          have hB1 : Below w.heap.size w w1 := ((HB.out.alloc lej (.cells #[.int .i64 (f (j - 1) + 2 * f j + f (j + 1))] 3)).drew).grown hgrow (by simp; omega) (fun q hq => (hown1.lt q hq).1)
          have hown3 : w1.ownsRow w.heap.size 3 1 (.slice (some ⟨gg, 0, none⟩) (j + 1) cap) (j + 1) ((List.range (j + 1)).map fun i => .int .i64 (sft f i)) := by rw [← range_snoc, ← gv.out]; exact hown2
          clear hown1 hown2 hgrow hat x1 x2 x3 x4 x5 y1 y2
          go_wp2
          go_roundw
          case rel => exact ⟨j + 1, by omega, by omega, by go_num, hown3, hB1⟩
          case measure => simp [intOf]; omega
        · have cx := (H.out.below hB hblt).at 7 (by omega)
          have hown1 : wr.ownsRow w.heap.size 3 1 u5 7 ((List.range 7).map fun i => .int .i64 (sft f i)) := by
            obtain rfl : j = 7 := by omega
            exact hown
          have gv : Hid (4 * f 7 = sft f 7) := by show _ = _; unfold sft; rw [if_pos (by omega)]
          have hj' : 7 ≤ j := by omega
          have HB := Lib.hid hB
          have OWN := Lib.hid hown1
          have lej := hB.size
          clear hB hown hown1 hj1 hj7 hj
          go_wp2_with (at_builtin; refine wpList_append_own _ rfl _ _ 35 rfl w.heap.size 3 i0 (.int .i64 0) 1 8 Try.underlying35 hi hz0 hz1 hz2 rfl (by decide) _ _ _ rfl (OWN.out.alloc _) ⟨wr.heap.size, 0, none⟩ 1 1 [.int .i64 (4 * f 7)] rfl rfl (cell_one_new _ _ _) (by simp [Value.oneCell']) (by decide) (by decide) (by simp; omega) ?_; intro v' w1 hown2 hgr hnil)
          have hB1 : Below w.heap.size w w1 := (HB.out.alloc lej (.cells #[.int .i64 (4 * f 7)] 3)).grown hgr (by simp; omega) (fun q hq => (OWN.out.lt q hq).1)
          have hown3 : w1.ownsRow w.heap.size 3 1 v' 8 ((List.range 8).map fun i => .int .i64 (sft f i)) := by rw [← range_snoc, ← gv.out]; exact hown2
          have HB1 := Lib.hid hB1
          have HR := Lib.hid (Res.of_own hown3)
          clear hB1 hown3 hown2 hgr hnil
          go_wp2
          go_ret2
          exact ⟨v', by rw [HE'.out]; rfl, by rw [HN'.out]; exact HR.out, HB1.out⟩

theorem rSoften_any (v : Value) (n : Nat) (f : Nat → Int) (w : World) (hs : Sl .i64 w v n f) :
    Calls Try.prog 39 #[v] w (Softens w n f) := by
  obtain ⟨a, c, rfl, h1, h2, h3⟩ := hs
  by_cases h : n = 8
  · subst h
    rcases h3 with ⟨h3, _⟩ | ⟨b, o, rfl, _, h4⟩
    · omega
    · exact rsoften_row b o c f w h4
  · exact rsoften_long a n c f w h


end Lo
end Go.Proofs.Ytkajfabmdljffaa
