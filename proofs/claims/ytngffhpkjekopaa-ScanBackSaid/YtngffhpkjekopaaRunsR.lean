/- The document's Runs. -/
import Derived.Test.YtngffhpkjekopaaRuns
namespace Go.Proofs.Ytngffhpkjekopaa
open Go.RowKit
namespace Sc

theorem rruns_first (v : Value) (first : Int) (n : Nat) (f : Nat → Int) (w : World) (hf : ¬ (first = 0 ∨ first = 1)) :
    Calls Try.prog 19 #[v, .int .i64 first] w (RunsTo w first n f) := by
  have E1 : Hid (rE first n f = 3) := Lib.hid (by unfold rE; rw [if_neg hf])
  have k0 : (first == 0) = false := by simp; omega
  have k1 : (first == 1) = false := by simp; omega
  have k2 : (first != 0) = true := by simp; omega
  have k3 : (first != 1) = true := by simp; omega
  clear hf
  go_enter Try.func19, Try.ntmps19
  go_wp2
  go_ret2
  exact runsTo_no E1.out (by decide) (Below.refl _ _)
theorem rruns_len0 (a : Option Addr) (n c : Nat) (f : Nat → Int) (w : World) (hn : n ≠ 64) :
    Calls Try.prog 19 #[.slice a n c, .int .i64 0] w (RunsTo w 0 n f) := by
  have E1 : Hid (rE 0 n f = 2) := Lib.hid (by unfold rE; rw [if_pos (by decide), if_pos (.inl hn)])
  have k : ((n : Int) == 64) = false := by simp; omega
  have k2 : ((n : Int) != 64) = true := by simp; omega
  clear hn
  go_enter Try.func19, Try.ntmps19
  go_wp2
  go_ret2
  exact runsTo_no E1.out (by decide) (Below.refl _ _)
theorem rruns_len1 (a : Option Addr) (n c : Nat) (f : Nat → Int) (w : World) (hn : n ≠ 64) :
    Calls Try.prog 19 #[.slice a n c, .int .i64 1] w (RunsTo w 1 n f) := by
  have E1 : Hid (rE 1 n f = 2) := Lib.hid (by unfold rE; rw [if_pos (by decide), if_pos (.inl hn)])
  have k : ((n : Int) == 64) = false := by simp; omega
  have k2 : ((n : Int) != 64) = true := by simp; omega
  clear hn
  go_enter Try.func19, Try.ntmps19
  go_wp2
  go_ret2
  exact runsTo_no E1.out (by decide) (Below.refl _ _)
theorem rruns_head (b o c : Nat) (f : Nat → Int) (w : World) (h : Ints w .i64 b o 64 f) (h0 : f 0 ≠ 0) :
    Calls Try.prog 19 #[.slice (some ⟨b, o, none⟩) 64 c, .int .i64 1] w (RunsTo w 1 64 f) := by
  have E1 : Hid (rE 1 64 f = 2) := Lib.hid (by unfold rE; rw [if_pos (by decide), if_pos (.inr ⟨rfl, h0⟩)])
  have k : (f 0 == 0) = false := by simp [h0]
  have k2 : (f 0 != 0) = true := by simp [h0]
  have c0 := h 0 (by omega)
  rw [Nat.add_zero] at c0
  clear h0 h
  go_enter Try.func19, Try.ntmps19
  go_wp2
  go_ret2
  exact runsTo_no E1.out (by decide) (Below.refl _ _)
set_option maxRecDepth 100000 in
set_option maxHeartbeats 4000000 in
theorem rruns_row0 (b o c : Nat) (f : Nat → Int) (w : World) (h : Ints w .i64 b o 64 f) :
    Calls Try.prog 19 #[.slice (some ⟨b, o, none⟩) 64 c, .int .i64 0] w (RunsTo w 0 64 f) := by
  obtain ⟨i0, hi, hz0, hz1, hz2⟩ := info_parts info_pair
  have HE : Hid (rE 0 64 f = if okV f 64 then 0 else 10) := Lib.hid (by unfold rE; rw [if_pos (by decide), if_neg (by rintro (h | ⟨h, _⟩) <;> simp at h)])
  have hb := h.lt (by omega)
  have H := Lib.hid h
  have B1 := Lib.hid ((Below.refl w.heap.size w).alloc (Nat.le_refl _) (.cells (rowOf .i64 64 plF) 3))
  have P1 := Lib.hid (pl_new w 3)
  clear h
  go_enter Try.func19, Try.ntmps19
  go_wp2_with fail
  go_loopw [6] (fun i wr => ∃ k : Nat, k ≤ 64 ∧ i = .int .i64 k ∧ okV f k = true ∧ wr = w) (fun i _ => 64 - (intOf i).toNat)
  case atStart => exact ⟨0, by omega, rfl, rfl, rfl⟩
  case round =>
    obtain ⟨k, hk, rfl, hok, hw⟩ := hrel
    obtain rfl := hw.symm
    clear hw
    by_cases hk64 : k < 64
    · have kb : (0 : Int) ≤ (k : Int) ∧ (k : Int) < 64 := by omega
      have ck := H.out k hk64
      have OK := Lib.hid hok
      clear hok
      cases gl : lvl (f k)
      · have ES : Hid (rE 0 64 f = 10) := Lib.hid (by rw [HE.out, okV_not hk64 gl]; rfl)
        by_cases g3 : f k < -127
        · have d1 : decide (f k < -127) = true := by simp; omega
          go_wp2
          go_ret2
          exact runsTo_no ES.out (by decide) (Below.refl _ _)
        · have d1 : decide (f k < -127) = false := by simp; omega
          have gl' : ¬ (-127 ≤ f k ∧ f k ≤ 127) := by simpa [lvl] using gl
          have d2 : decide (127 < f k) = true := by simp; omega
          go_wp2
          go_ret2
          exact runsTo_no ES.out (by decide) (Below.refl _ _)
      · have gl' : -127 ≤ f k ∧ f k ≤ 127 := by simpa [lvl] using gl
        have d1 : decide (f k < -127) = false := by simp; omega
        have d2 : decide (127 < f k) = false := by simp; omega
        go_wp2
        go_roundw
        case rel => exact ⟨k + 1, by omega, by go_num, by rw [okV_succ, OK.out, gl]; rfl, by trivial⟩
        case measure => simp [intOf]; omega
    · have hE : Hid (rE 0 64 f = 0) := Lib.hid (by
        obtain rfl : k = 64 := by omega
        rw [HE.out, hok]; rfl)
      have hk' : (64 : Int) ≤ (k : Int) := by omega
      clear hok
      go_wp2_with (go_at_call 27; refine (rorder_any _).mono ?_; rintro e w1 ⟨rfl, rfl⟩)
      go_loopw [7, 8, 10] (fun v run i wr => ∃ j : Nat, j ≤ 64 - 0 ∧ i = .int .i64 ((0 + j : Nat) : Int) ∧ run = .int .i64 (ruS f 0 j).run ∧ wr.ownsRow (w.heap.size + 1) 39 2 v (ruS f 0 j).c (ruCells f 0 j) ∧ Arr wr .i64 w.heap.size 64 plF ∧ Below w.heap.size w wr)
        (fun _ _ i _ => 64 - (intOf i).toNat)
      case atStart => exact ⟨0, by omega, rfl, rfl, World.ownsRow_nil _ _ _ _, P1.out, B1.out⟩
      case round =>
        obtain ⟨j, hj, rfl, rfl, hown, hP, hB⟩ := hrel
        by_cases hj64 : j < 64 - 0
        · have jb : (0 : Int) ≤ (j : Int) ∧ (j : Int) < 64 - 0 := by omega
          have bd := ruS_bd f 0 j
          have HZ := @ruS_zero f 0 j
          have HS := @ruS_some f 0 j
          have CZ := @ruCells_zero f 0 j
          have CS := @ruCells_some f 0 j
          obtain ⟨q, hq⟩ : ∃ q, q = 0 + j := ⟨_, rfl⟩
          have hq' : q < 64 := by omega
          have cP := (hP q hq').1
          have p64 := at_lt0 q hq'
          obtain ⟨p, hp⟩ : ∃ p, p = at' q := ⟨_, rfl⟩
          have PE : plF q = (p : Int) := by rw [hp]; rfl
          rw [PE] at cP
          rw [← hq, ← hp] at HZ HS CZ CS
          rw [← hp] at p64
          have pb : (0 : Int) ≤ (p : Int) ∧ (p : Int) < 64 := by omega
          have qb : (0 : Int) ≤ (q : Int) ∧ (q : Int) < 64 := by omega
          have cA := (H.out.below hB hb) p p64
          have HZ := Lib.hid HZ
          have HS := Lib.hid HS
          have CZ := Lib.hid CZ
          have CS := Lib.hid CS
          have HP := Lib.hid hP
          have HB := Lib.hid hB
          have OWN := Lib.hid hown
          have QQ := Lib.hid hq
          rw [← hq]
          clear hP hB hown hp PE hq
          by_cases g : f p = 0
          · have k0 : (f p == 0) = true := by simp [g]
            go_wp2
            go_roundw
            case rel => exact ⟨j + 1, by omega, by have := QQ.out; go_num, by rw [(HZ.out g).2.1], by rw [(HZ.out g).1, CZ.out g]; exact OWN.out, HP.out, HB.out⟩
            case measure => have := QQ.out; simp [intOf]; omega
          · have k0 : (f p == 0) = false := by simp [g]
            have z0 := HB.out.size
            have lp := HP.out.lt (by omega)
            go_wp2_with (at_builtin; refine wpList_append_own _ rfl _ _ 22 rfl (w.heap.size + 1) 39 i0 (.agg #[.int .i64 0, .int .i64 0]) 2 16 Try.underlying22 hi hz0 hz1 hz2 rfl (by decide) _ _ _ rfl (OWN.out.alloc _) ⟨wr.heap.size, 0, none⟩ 1 1 [.int .i64 (ruS f 0 j).run, .int .i64 (f p)] rfl rfl (World.news_of_block (cs := #[.int .i64 (ruS f 0 j).run, .int .i64 (f p)]) (t := 39) (fr := (0, 0)) (heap_alloc_new wr _)) (by simp [Value.oneCell']) (by unfold maxLen; omega) (by omega) (by simp; omega) ?_; intro v' w5 hown2 hgr hnil)
            have hown3 : w5.ownsRow (w.heap.size + 1) 39 2 v' (ruS f 0 (j + 1)).c (ruCells f 0 (j + 1)) := by rw [(HS.out g).1, CS.out g]; exact hown2
            have hB5 : Below w.heap.size w w5 := (HB.out.alloc z0 (.cells #[.int .i64 (ruS f 0 j).run, .int .i64 (f p)] 39)).grown hgr (by simp; omega) (fun q hq => by have := (OWN.out.lt q hq).1; omega)
            have hP5 : Arr w5 .i64 w.heap.size 64 plF := (HP.out.alloc (.cells #[.int .i64 (ruS f 0 j).run, .int .i64 (f p)] 39)).grown hgr (fun e => by have := (OWN.out.lt _ e.symm).1; omega)
            clear hown2 hgr hnil
            go_wp2
            go_roundw
            case rel => exact ⟨j + 1, by omega, by have := QQ.out; go_num, by rw [(HS.out g).2.1], hown3, hP5, hB5⟩
            case measure => have := QQ.out; simp [intOf]; omega
        · obtain rfl : j = 64 - 0 := by omega
          have OWN := Lib.hid hown
          have HB := Lib.hid hB
          clear hown hB hP
          go_wp2
          go_ret2
          exact runsTo_yes (first := 0) hE.out (Nat.le_succ _) OWN.out HB.out
set_option maxRecDepth 100000 in
set_option maxHeartbeats 4000000 in
theorem rruns_row1 (b o c : Nat) (f : Nat → Int) (w : World) (h : Ints w .i64 b o 64 f) (h0 : f 0 = 0) :
    Calls Try.prog 19 #[.slice (some ⟨b, o, none⟩) 64 c, .int .i64 1] w (RunsTo w 1 64 f) := by
  obtain ⟨i0, hi, hz0, hz1, hz2⟩ := info_parts info_pair
  have HE : Hid (rE 1 64 f = if okV f 64 then 0 else 10) := Lib.hid (by unfold rE; rw [if_pos (by decide), if_neg (by rintro (h | ⟨_, h⟩); (simp at h); exact h h0)])
  have c0 := h 0 (by omega)
  rw [Nat.add_zero, h0] at c0
  have hb := h.lt (by omega)
  have H := Lib.hid h
  have B1 := Lib.hid ((Below.refl w.heap.size w).alloc (Nat.le_refl _) (.cells (rowOf .i64 64 plF) 3))
  have P1 := Lib.hid (pl_new w 3)
  clear h
  go_enter Try.func19, Try.ntmps19
  go_wp2_with fail
  go_loopw [6] (fun i wr => ∃ k : Nat, k ≤ 64 ∧ i = .int .i64 k ∧ okV f k = true ∧ wr = w) (fun i _ => 64 - (intOf i).toNat)
  case atStart => exact ⟨0, by omega, rfl, rfl, rfl⟩
  case round =>
    obtain ⟨k, hk, rfl, hok, hw⟩ := hrel
    obtain rfl := hw.symm
    clear hw
    by_cases hk64 : k < 64
    · have kb : (0 : Int) ≤ (k : Int) ∧ (k : Int) < 64 := by omega
      have ck := H.out k hk64
      have OK := Lib.hid hok
      clear hok
      cases gl : lvl (f k)
      · have ES : Hid (rE 1 64 f = 10) := Lib.hid (by rw [HE.out, okV_not hk64 gl]; rfl)
        by_cases g3 : f k < -127
        · have d1 : decide (f k < -127) = true := by simp; omega
          go_wp2
          go_ret2
          exact runsTo_no ES.out (by decide) (Below.refl _ _)
        · have d1 : decide (f k < -127) = false := by simp; omega
          have gl' : ¬ (-127 ≤ f k ∧ f k ≤ 127) := by simpa [lvl] using gl
          have d2 : decide (127 < f k) = true := by simp; omega
          go_wp2
          go_ret2
          exact runsTo_no ES.out (by decide) (Below.refl _ _)
      · have gl' : -127 ≤ f k ∧ f k ≤ 127 := by simpa [lvl] using gl
        have d1 : decide (f k < -127) = false := by simp; omega
        have d2 : decide (127 < f k) = false := by simp; omega
        go_wp2
        go_roundw
        case rel => exact ⟨k + 1, by omega, by go_num, by rw [okV_succ, OK.out, gl]; rfl, by trivial⟩
        case measure => simp [intOf]; omega
    · have hE : Hid (rE 1 64 f = 0) := Lib.hid (by
        obtain rfl : k = 64 := by omega
        rw [HE.out, hok]; rfl)
      have hk' : (64 : Int) ≤ (k : Int) := by omega
      clear hok
      go_wp2_with (go_at_call 27; refine (rorder_any _).mono ?_; rintro e w1 ⟨rfl, rfl⟩)
      go_loopw [7, 8, 10] (fun v run i wr => ∃ j : Nat, j ≤ 64 - 1 ∧ i = .int .i64 ((1 + j : Nat) : Int) ∧ run = .int .i64 (ruS f 1 j).run ∧ wr.ownsRow (w.heap.size + 1) 39 2 v (ruS f 1 j).c (ruCells f 1 j) ∧ Arr wr .i64 w.heap.size 64 plF ∧ Below w.heap.size w wr)
        (fun _ _ i _ => 64 - (intOf i).toNat)
      case atStart => exact ⟨0, by omega, rfl, rfl, World.ownsRow_nil _ _ _ _, P1.out, B1.out⟩
      case round =>
        obtain ⟨j, hj, rfl, rfl, hown, hP, hB⟩ := hrel
        by_cases hj64 : j < 64 - 1
        · have jb : (0 : Int) ≤ (j : Int) ∧ (j : Int) < 64 - 1 := by omega
          have bd := ruS_bd f 1 j
          have HZ := @ruS_zero f 1 j
          have HS := @ruS_some f 1 j
          have CZ := @ruCells_zero f 1 j
          have CS := @ruCells_some f 1 j
          obtain ⟨q, hq⟩ : ∃ q, q = 1 + j := ⟨_, rfl⟩
          have hq' : q < 64 := by omega
          have cP := (hP q hq').1
          have p64 := at_lt0 q hq'
          obtain ⟨p, hp⟩ : ∃ p, p = at' q := ⟨_, rfl⟩
          have PE : plF q = (p : Int) := by rw [hp]; rfl
          rw [PE] at cP
          rw [← hq, ← hp] at HZ HS CZ CS
          rw [← hp] at p64
          have pb : (0 : Int) ≤ (p : Int) ∧ (p : Int) < 64 := by omega
          have qb : (0 : Int) ≤ (q : Int) ∧ (q : Int) < 64 := by omega
          have cA := (H.out.below hB hb) p p64
          have HZ := Lib.hid HZ
          have HS := Lib.hid HS
          have CZ := Lib.hid CZ
          have CS := Lib.hid CS
          have HP := Lib.hid hP
          have HB := Lib.hid hB
          have OWN := Lib.hid hown
          have QQ := Lib.hid hq
          rw [← hq]
          clear hP hB hown hp PE hq
          by_cases g : f p = 0
          · have k0 : (f p == 0) = true := by simp [g]
            go_wp2
            go_roundw
            case rel => exact ⟨j + 1, by omega, by have := QQ.out; go_num, by rw [(HZ.out g).2.1], by rw [(HZ.out g).1, CZ.out g]; exact OWN.out, HP.out, HB.out⟩
            case measure => have := QQ.out; simp [intOf]; omega
          · have k0 : (f p == 0) = false := by simp [g]
            have z0 := HB.out.size
            have lp := HP.out.lt (by omega)
            go_wp2_with (at_builtin; refine wpList_append_own _ rfl _ _ 22 rfl (w.heap.size + 1) 39 i0 (.agg #[.int .i64 0, .int .i64 0]) 2 16 Try.underlying22 hi hz0 hz1 hz2 rfl (by decide) _ _ _ rfl (OWN.out.alloc _) ⟨wr.heap.size, 0, none⟩ 1 1 [.int .i64 (ruS f 1 j).run, .int .i64 (f p)] rfl rfl (World.news_of_block (cs := #[.int .i64 (ruS f 1 j).run, .int .i64 (f p)]) (t := 39) (fr := (0, 0)) (heap_alloc_new wr _)) (by simp [Value.oneCell']) (by unfold maxLen; omega) (by omega) (by simp; omega) ?_; intro v' w5 hown2 hgr hnil)
            have hown3 : w5.ownsRow (w.heap.size + 1) 39 2 v' (ruS f 1 (j + 1)).c (ruCells f 1 (j + 1)) := by rw [(HS.out g).1, CS.out g]; exact hown2
            have hB5 : Below w.heap.size w w5 := (HB.out.alloc z0 (.cells #[.int .i64 (ruS f 1 j).run, .int .i64 (f p)] 39)).grown hgr (by simp; omega) (fun q hq => by have := (OWN.out.lt q hq).1; omega)
            have hP5 : Arr w5 .i64 w.heap.size 64 plF := (HP.out.alloc (.cells #[.int .i64 (ruS f 1 j).run, .int .i64 (f p)] 39)).grown hgr (fun e => by have := (OWN.out.lt _ e.symm).1; omega)
            clear hown2 hgr hnil
            go_wp2
            go_roundw
            case rel => exact ⟨j + 1, by omega, by have := QQ.out; go_num, by rw [(HS.out g).2.1], hown3, hP5, hB5⟩
            case measure => have := QQ.out; simp [intOf]; omega
        · obtain rfl : j = 64 - 1 := by omega
          have OWN := Lib.hid hown
          have HB := Lib.hid hB
          clear hown hB hP
          go_wp2
          go_ret2
          exact runsTo_yes (first := 1) hE.out (Nat.le_succ _) OWN.out HB.out
theorem rRuns_any (v : Value) (first : Int) (n : Nat) (f : Nat → Int) (w : World) (hs : Sl .i64 w v n f) :
    Calls Try.prog 19 #[v, .int .i64 first] w (RunsTo w first n f) := by
  by_cases hf : first = 0 ∨ first = 1
  · obtain ⟨a, c, rfl, _, _, h3⟩ := hs
    by_cases hn : n = 64
    · subst hn
      rcases h3 with ⟨h0, _⟩ | ⟨b, o, rfl, _, h⟩
      · omega
      · rcases hf with rfl | rfl
        · exact rruns_row0 b o c f w h
        · by_cases h0 : f 0 = 0
          · exact rruns_row1 b o c f w h h0
          · exact rruns_head b o c f w h h0
    · rcases hf with rfl | rfl
      · exact rruns_len0 a n c f w hn
      · exact rruns_len1 a n c f w hn
  · exact rruns_first v first n f w hf
end Sc
end Go.Proofs.Ytngffhpkjekopaa
