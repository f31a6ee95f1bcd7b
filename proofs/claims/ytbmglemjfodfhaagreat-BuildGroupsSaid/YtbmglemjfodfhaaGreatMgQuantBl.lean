/- Which level is nearest: quant.Nearest, its closure, and the document's. | The document's Nearest comes to the same. | What the levels of a block are worth: quant.Inter, quant.Intra, and the document's. -/
import Derived.Test.YtbmglemjfodfhaaGreatMgQuant
import Derived.Test.YtbmglemjfodfhaaGreatMgSlices
import Derived.Deep.LoopGhost
set_option linter.unusedVariables false
set_option linter.unusedSimpArgs false
namespace Go.Proofs.YtbmglemjfodfhaaGreat
open Go.RowKit
namespace Qu
end Qu
end Go.Proofs.YtbmglemjfodfhaaGreat
namespace Go.Proofs.YtbmglemjfodfhaaGreat
open Go.RowKit
namespace Qu
end Qu
end Go.Proofs.YtbmglemjfodfhaaGreat
namespace Go.Proofs.YtbmglemjfodfhaaGreat
open Go.RowKit
namespace Qu
def okAll (f : Nat → Int) (q : Int) (k : Nat) : Bool := (List.range k).all fun i => okB (f i) q
theorem okAll_succ (f : Nat → Int) (q : Int) (k : Nat) : okAll f q (k + 1) = (okAll f q k && okB (f k) q) := by unfold okAll; rw [List.range_succ]; simp
theorem okAll_at {f : Nat → Int} {q : Int} {k : Nat} (h : okAll f q k = true) (i : Nat) (hi : i < k) : okB (f i) q = true := by
  unfold okAll at h; rw [List.all_eq_true] at h; exact h i (List.mem_range.2 hi)
theorem okAll_not {f : Nat → Int} {q : Int} {k i : Nat} (hi : i < k) (h : okB (f i) q = false) : okAll f q k = false := by
  cases e : okAll f q k
  · rfl
  · rw [okAll_at e i hi] at h; cases h
def iE (n : Nat) (f : Nat → Int) (q : Int) : Int := if n = 64 then (if okAll f q 64 then 0 else 3) else 2
def iN (n : Nat) (f : Nat → Int) (q : Int) : Nat := if n = 64 then (if okAll f q 64 then 64 else 0) else 0
def Inters (w : World) (n : Nat) (f : Nat → Int) (q : Int) (e : Ending) (w' : World) : Prop :=
  ∃ v, e = .returned (.tuple #[v, .int .i64 (iE n f q)]) ∧ Res .i64 w.heap.size w' v (iN n f q) (fun i => val (f i) q) ∧ Below w.heap.size w w'
theorem inter_long (a : Option Addr) (n c : Nat) (f : Nat → Int) (q : Int) (w : World) (h : n ≠ 64) :
    Calls Tryz.prog 95 #[.slice a n c, .int .i64 q] w (Inters w n f q) := by
  have e1 : iE n f q = 2 := by unfold iE; rw [if_neg h]
  have e2 : iN n f q = 0 := by unfold iN; rw [if_neg h]
  have k : ((n : Int) == 64) = false := by simp; omega
  have E1 := Lib.hid e1
  have E2 := Lib.hid e2
  clear e1 e2
  go_enter Tryz.func95, Tryz.ntmps95
  go_wp2
  go_ret2
  exact ⟨.slice none 0 0, by rw [E1.out]; rfl, by rw [E2.out]; exact .inl ⟨rfl, rfl⟩, Below.refl _ _⟩
set_option maxRecDepth 100000 in
set_option maxHeartbeats 1000000 in
theorem inter_row (b o c : Nat) (f : Nat → Int) (q : Int) (w : World) (h : Ints w .i64 b o 64 f) :
    Calls Tryz.prog 95 #[.slice (some ⟨b, o, none⟩) 64 c, .int .i64 q] w (Inters w 64 f q) := by
  obtain ⟨i0, hi, hz0, hz1, hz2⟩ := info_parts info_int
  have hblt := h.lt (by omega)
  have H := Lib.hid h
  have HE : Hid (iE 64 f q = if okAll f q 64 then 0 else 3) := by show _ = _; unfold iE; rw [if_pos rfl]
  have HN : Hid (iN 64 f q = if okAll f q 64 then 64 else 0) := by show _ = _; unfold iN; rw [if_pos rfl]
  clear h
  go_enter Tryz.func95, Tryz.ntmps95
  go_wp2
  go_loopw [6, 16] (fun v i wr => ∃ k : Nat, k ≤ 64 ∧ i = .int .i64 k ∧ wr.ownsRow w.heap.size 3 1 v k ((List.range k).map fun i => .int .i64 (val (f i) q)) ∧ okAll f q k = true ∧ Below w.heap.size w wr)
    (fun _ i _ => 64 - (intOf i).toNat)
  case atStart => exact ⟨0, by omega, by go_num, World.ownsRow_nil _ _ _ _, rfl, Below.refl _ _⟩
  case round =>
    obtain ⟨k, hk, rfl, hown, hok, hB⟩ := hrel
    by_cases hk64 : k < 64
    · have ck := (H.out.below hB hblt).at k hk64
      have kb : (0 : Int) ≤ (k : Int) ∧ (k : Int) < 64 := by omega
      have OK := Lib.hid hok
      have HB := Lib.hid hB
      clear hok hB
      cases hkk : okB (f k) q
      · have KK := Lib.hid hkk
        clear hkk
        go_wp2_with (go_at_call 138; refine (value_no _ _ _ KK.out).mono ?_; rintro e w1 ⟨rfl, hw⟩)
        go_ret2
        have ea := okAll_not hk64 KK.out
        exact ⟨.slice none 0 0, by rw [HE.out, ea]; rfl, by rw [HN.out, ea]; exact .inl ⟨rfl, rfl⟩, HB.out.trans (hw.mono HB.out.size)⟩
      · have KK := Lib.hid hkk
        clear hkk
        go_wp2_with (first
          | (go_at_call 138; refine (value_yes _ _ _ KK.out).mono ?_; rintro e w1 ⟨rfl, hw⟩; have hown1 := hown.kept (grown_of_below hw none) (by cases hv : Value.ownBlock u6 <;> simp))
          | (at_builtin; go_loud (refine wpList_append_own _ rfl _ _ 87 rfl w.heap.size 3 i0 (.int .i64 0) 1 8 Tryz.underlying87 hi hz0 hz1 hz2 rfl (by decide) _ _ _ rfl (hown1.alloc _) ⟨w1.heap.size, 0, none⟩ 1 1 [.int .i64 (val (f k) q)] rfl rfl (cell_one_new _ _ _) (by simp [Value.oneCell']) (by unfold maxLen; omega) (by omega) (by have := HB.out.size; have := hw.size; simp; omega) ?_); intro v' w2 hown2 hgr hnil))
        have hBn : Below w.heap.size w w2 := ((HB.out.trans (hw.mono HB.out.size)).alloc (Nat.le_trans HB.out.size hw.size) (.cells #[.int .i64 (val (f k) q)] 3)).grown hgr (by have := HB.out.size; have := hw.size; simp; omega) (fun j hj => (hown1.lt j hj).1)
        have hown3 : w2.ownsRow w.heap.size 3 1 v' (k + 1) ((List.range (k + 1)).map fun i => .int .i64 (val (f i) q)) := by rw [← range_snoc]; exact hown2
        clear hown2 hgr hnil
        go_roundw
        case rel => exact ⟨k + 1, by omega, by go_num, hown3, by rw [okAll_succ, OK.out, KK.out]; rfl, hBn⟩
        case measure => simp [intOf]; omega
    · have e64 : k = 64 := by omega
      have hr : Res .i64 w.heap.size wr u6 (iN 64 f q) (fun i => val (f i) q) := by
        subst e64
        rw [HN.out, hok]
        exact Res.of_own hown
      have he : iE 64 f q = 0 := by
        subst e64
        rw [HE.out, hok]
        rfl
      have hk' : 64 ≤ k := by omega
      have HR := Lib.hid hr
      have HE' := Lib.hid he
      have HB := Lib.hid hB
      clear e64 hr he hB hown hok hk hk64
      go_wp2
      go_ret2
      exact ⟨u6, by rw [HE'.out]; rfl, HR.out, HB.out⟩
theorem Inter_any (v : Value) (n : Nat) (f : Nat → Int) (q : Int) (w : World) (hs : Sl .i64 w v n f) :
    Calls Tryz.prog 95 #[v, .int .i64 q] w (Inters w n f q) := by
  obtain ⟨a, c, rfl, h1, h2, h3⟩ := hs
  by_cases h : n = 64
  · subst h
    rcases h3 with ⟨h3, _⟩ | ⟨b, o, rfl, _, h4⟩
    · omega
    · exact inter_row b o c f q w h4
  · exact inter_long a n c f q w h
theorem rvalue_no_b (l q : Int) (w : World) (h : okB l q = false) :
    Calls Tryz.prog 150 #[.int .i64 l, .int .i64 q] w fun e w' => e = .returned (.tuple #[.int .i64 0, .int .i64 3]) ∧ Below w.heap.size w w' :=
  (rvalue_no l q w h).mono fun _ _ ⟨he, hw⟩ => ⟨he, by subst hw; exact Below.refl _ _⟩
theorem rvalue_yes_b (l q : Int) (w : World) (h : okB l q = true) :
    Calls Tryz.prog 150 #[.int .i64 l, .int .i64 q] w fun e w' => e = .returned (.tuple #[.int .i64 (val l q), .int .i64 0]) ∧ Below w.heap.size w w' :=
  (rvalue_yes l q w h).mono fun _ _ ⟨he, hw⟩ => ⟨he, by subst hw; exact Below.refl _ _⟩
theorem rinter_long (a : Option Addr) (n c : Nat) (f : Nat → Int) (q : Int) (w : World) (h : n ≠ 64) :
    Calls Tryz.prog 111 #[.slice a n c, .int .i64 q] w (Inters w n f q) := by
  have e1 : iE n f q = 2 := by unfold iE; rw [if_neg h]
  have e2 : iN n f q = 0 := by unfold iN; rw [if_neg h]
  have k : ((n : Int) == 64) = false := by simp; omega
  have E1 := Lib.hid e1
  have E2 := Lib.hid e2
  clear e1 e2
  go_enter Tryz.func111, Tryz.ntmps111
  go_wp2
  go_ret2
  exact ⟨.slice none 0 0, by rw [E1.out]; rfl, by rw [E2.out]; exact .inl ⟨rfl, rfl⟩, Below.refl _ _⟩
set_option maxRecDepth 100000 in
set_option maxHeartbeats 1000000 in
theorem rinter_row (b o c : Nat) (f : Nat → Int) (q : Int) (w : World) (h : Ints w .i64 b o 64 f) :
    Calls Tryz.prog 111 #[.slice (some ⟨b, o, none⟩) 64 c, .int .i64 q] w (Inters w 64 f q) := by
  obtain ⟨i0, hi, hz0, hz1, hz2⟩ := info_parts info_int
  have hblt := h.lt (by omega)
  have H := Lib.hid h
  have HE : Hid (iE 64 f q = if okAll f q 64 then 0 else 3) := by show _ = _; unfold iE; rw [if_pos rfl]
  have HN : Hid (iN 64 f q = if okAll f q 64 then 64 else 0) := by show _ = _; unfold iN; rw [if_pos rfl]
  clear h
  go_enter Tryz.func111, Tryz.ntmps111
  go_wp2
  go_loopw [6, 7] (fun v i wr => ∃ k : Nat, k ≤ 64 ∧ i = .int .i64 k ∧ wr.ownsRow w.heap.size 3 1 v k ((List.range k).map fun i => .int .i64 (val (f i) q)) ∧ okAll f q k = true ∧ Below w.heap.size w wr)
    (fun _ i _ => 64 - (intOf i).toNat)
  case atStart => exact ⟨0, by omega, by go_num, World.ownsRow_nil _ _ _ _, rfl, Below.refl _ _⟩
  case round =>
    obtain ⟨k, hk, rfl, hown, hok, hB⟩ := hrel
    by_cases hk64 : k < 64
    · have ck := (H.out.below hB hblt).at k hk64
      have kb : (0 : Int) ≤ (k : Int) ∧ (k : Int) < 64 := by omega
      have OK := Lib.hid hok
      have HB := Lib.hid hB
      clear hok hB
      cases hkk : okB (f k) q
      · have KK := Lib.hid hkk
        clear hkk
        go_wp2_with (go_at_call 150; refine (rvalue_no_b _ _ _ KK.out).mono ?_; rintro e w1 ⟨rfl, hw⟩)
        go_ret2
        have ea := okAll_not hk64 KK.out
        exact ⟨.slice none 0 0, by rw [HE.out, ea]; rfl, by rw [HN.out, ea]; exact .inl ⟨rfl, rfl⟩, HB.out.trans (hw.mono HB.out.size)⟩
      · have KK := Lib.hid hkk
        clear hkk
        go_wp2_with (first
          | (go_at_call 150; refine (rvalue_yes_b _ _ _ KK.out).mono ?_; rintro e w1 ⟨rfl, hw⟩; have hown1 := hown.kept (grown_of_below hw none) (by cases hv : Value.ownBlock u6 <;> simp))
          | (at_builtin; go_loud (refine wpList_append_own _ rfl _ _ 87 rfl w.heap.size 3 i0 (.int .i64 0) 1 8 Tryz.underlying87 hi hz0 hz1 hz2 rfl (by decide) _ _ _ rfl (hown1.alloc _) ⟨w1.heap.size, 0, none⟩ 1 1 [.int .i64 (val (f k) q)] rfl rfl (cell_one_new _ _ _) (by simp [Value.oneCell']) (by unfold maxLen; omega) (by omega) (by have := HB.out.size; have := hw.size; simp; omega) ?_); intro v' w2 hown2 hgr hnil))
        have hBn : Below w.heap.size w w2 := ((HB.out.trans (hw.mono HB.out.size)).alloc (Nat.le_trans HB.out.size hw.size) (.cells #[.int .i64 (val (f k) q)] 3)).grown hgr (by have := HB.out.size; have := hw.size; simp; omega) (fun j hj => (hown1.lt j hj).1)
        have hown3 : w2.ownsRow w.heap.size 3 1 v' (k + 1) ((List.range (k + 1)).map fun i => .int .i64 (val (f i) q)) := by rw [← range_snoc]; exact hown2
        clear hown2 hgr hnil
        go_roundw
        case rel => exact ⟨k + 1, by omega, by go_num, hown3, by rw [okAll_succ, OK.out, KK.out]; rfl, hBn⟩
        case measure => simp [intOf]; omega
    · have e64 : k = 64 := by omega
      have hr : Res .i64 w.heap.size wr u6 (iN 64 f q) (fun i => val (f i) q) := by
        subst e64
        rw [HN.out, hok]
        exact Res.of_own hown
      have he : iE 64 f q = 0 := by
        subst e64
        rw [HE.out, hok]
        rfl
      have hk' : 64 ≤ k := by omega
      have HR := Lib.hid hr
      have HE' := Lib.hid he
      have HB := Lib.hid hB
      clear e64 hr he hB hown hok hk hk64
      go_wp2
      go_ret2
      exact ⟨u6, by rw [HE'.out]; rfl, HR.out, HB.out⟩
theorem rInter_any (v : Value) (n : Nat) (f : Nat → Int) (q : Int) (w : World) (hs : Sl .i64 w v n f) :
    Calls Tryz.prog 111 #[v, .int .i64 q] w (Inters w n f q) := by
  obtain ⟨a, c, rfl, h1, h2, h3⟩ := hs
  by_cases h : n = 64
  · subst h
    rcases h3 with ⟨h3, _⟩ | ⟨b, o, rfl, _, h4⟩
    · omega
    · exact rinter_row b o c f q w h4
  · exact rinter_long a n c f q w h
theorem iE_cases (n : Nat) (f : Nat → Int) (q : Int) : (iE n f q = 0 ∧ iN n f q = 64) ∨ (iE n f q ≠ 0 ∧ iN n f q = 0) := by
  unfold iE iN
  by_cases h : n = 64
  · rw [if_pos h, if_pos h]
    cases okAll f q 64 <;> simp
  · rw [if_neg h, if_neg h]; simp
def aE (n : Nat) (f : Nat → Int) (q c : Int) : Int := if iE n f q = 0 then dcE c else iE n f q
def aN (n : Nat) (f : Nat → Int) (q c : Int) : Nat := if iE n f q = 0 ∧ dcE c = 0 then 64 else 0
def aV (f : Nat → Int) (q c : Int) (i : Nat) : Int := if i = 0 then dcV c else val (f i) q
def Intras (w : World) (n : Nat) (f : Nat → Int) (q c : Int) (e : Ending) (w' : World) : Prop :=
  ∃ v, e = .returned (.tuple #[v, .int .i64 (aE n f q c)]) ∧ Res .i64 w.heap.size w' v (aN n f q c) (aV f q c) ∧ Below w.heap.size w w'
set_option maxRecDepth 100000 in
theorem Intra_any (v : Value) (n : Nat) (f : Nat → Int) (q c : Int) (w : World) (hs : Sl .i64 w v n f) :
    Calls Tryz.prog 94 #[v, .int .i64 q, .int .i64 c] w (Intras w n f q c) := by
  have HS := Lib.hid hs
  clear hs
  rcases iE_cases n f q with ⟨h1, h2⟩ | ⟨h1, h2⟩
  · by_cases h3 : dcE c = 0
    · have e1 : aE n f q c = 0 := by unfold aE; rw [if_pos h1, h3]
      have e2 : aN n f q c = 64 := by unfold aN; rw [if_pos ⟨h1, h3⟩]
      have E1 := Lib.hid e1
      have E2 := Lib.hid e2
      have H1 := Lib.hid h1
      have H2 := Lib.hid h2
      clear e1 e2 h1 h2
      go_enter Tryz.func94, Tryz.ntmps94
      go_wp2_with (first
        | (go_at_call 95; refine (Inter_any _ _ _ _ _ HS.out).mono ?_; rintro e w1 ⟨v1, rfl, hR, hB⟩; rw [H1.out]; rw [H2.out] at hR; rcases hR with ⟨h0, _⟩ | ⟨g, c1, rfl, r1, r2, r3, r4, r5⟩; (exact absurd h0 (by decide)); have q0 := r5 0 (by decide); have R5 := Lib.hid r5; have HB := Lib.hid hB; clear r5 hB)
        | (go_at_call 137; refine (DC_any _ _).mono ?_; rintro e w2 ⟨rfl, rfl⟩))
      go_ret2
      refine ⟨_, by rw [E1.out]; rfl, .inr ⟨g, c1, by rw [E2.out]; rfl, r1, by simpa [World.setCell] using r2, by rw [E2.out]; exact r3, r4, ?_⟩, HB.out.setCell r1 _⟩
      rw [E2.out]
      exact (R5.out.set 0 (dcV c))
    · have e1 : aE n f q c = dcE c := by unfold aE; rw [if_pos h1]
      have e2 : aN n f q c = 0 := by unfold aN; rw [if_neg (fun h => h3 h.2)]
      have k3 : (dcE c == 0) = false := by simp; exact h3
      have E1 := Lib.hid e1
      have E2 := Lib.hid e2
      have H1 := Lib.hid h1
      have H2 := Lib.hid h2
      clear e1 e2 h1 h2 h3
      go_enter Tryz.func94, Tryz.ntmps94
      go_wp2_with (first
        | (go_at_call 95; refine (Inter_any _ _ _ _ _ HS.out).mono ?_; rintro e w1 ⟨v1, rfl, hR, hB⟩; rw [H1.out]; rw [H2.out] at hR; rcases hR with ⟨h0, _⟩ | ⟨g, c1, rfl, r1, r2, r3, r4, r5⟩; (exact absurd h0 (by decide)); have q0 := r5 0 (by decide); have R5 := Lib.hid r5; have HB := Lib.hid hB; clear r5 hB)
        | (go_at_call 137; refine (DC_any _ _).mono ?_; rintro e w2 ⟨rfl, rfl⟩))
      go_ret2
      exact ⟨.slice none 0 0, by rw [E1.out]; rfl, by rw [E2.out]; exact .inl ⟨rfl, rfl⟩, HB.out.setCell r1 _⟩
  · have e1 : aE n f q c = iE n f q := by unfold aE; rw [if_neg h1]
    have e2 : aN n f q c = 0 := by unfold aN; rw [if_neg (fun h => h1 h.1)]
    have k1 : (iE n f q == 0) = false := by simp; exact h1
    have E1 := Lib.hid e1
    have E2 := Lib.hid e2
    have H2 := Lib.hid h2
    clear e1 e2 h1 h2
    go_enter Tryz.func94, Tryz.ntmps94
    go_wp2_with (go_at_call 95; refine (Inter_any _ _ _ _ _ HS.out).mono ?_; rintro e w1 ⟨v1, rfl, hR, hB⟩; have HB := Lib.hid hB; clear hB hR)
    go_ret2
    exact ⟨.slice none 0 0, by rw [E1.out]; rfl, by rw [E2.out]; exact .inl ⟨rfl, rfl⟩, HB.out⟩
set_option maxRecDepth 100000 in
theorem rIntra_any (v : Value) (n : Nat) (f : Nat → Int) (q c : Int) (w : World) (hs : Sl .i64 w v n f) :
    Calls Tryz.prog 112 #[v, .int .i64 q, .int .i64 c] w (Intras w n f q c) := by
  have HS := Lib.hid hs
  clear hs
  rcases iE_cases n f q with ⟨h1, h2⟩ | ⟨h1, h2⟩
  · by_cases h3 : dcE c = 0
    · have e1 : aE n f q c = 0 := by unfold aE; rw [if_pos h1, h3]
      have e2 : aN n f q c = 64 := by unfold aN; rw [if_pos ⟨h1, h3⟩]
      have E1 := Lib.hid e1
      have E2 := Lib.hid e2
      have H1 := Lib.hid h1
      have H2 := Lib.hid h2
      clear e1 e2 h1 h2
      go_enter Tryz.func112, Tryz.ntmps112
      go_wp2_with (first
        | (go_at_call 111; refine (rInter_any _ _ _ _ _ HS.out).mono ?_; rintro e w1 ⟨v1, rfl, hR, hB⟩; rw [H1.out]; rw [H2.out] at hR; rcases hR with ⟨h0, _⟩ | ⟨g, c1, rfl, r1, r2, r3, r4, r5⟩; (exact absurd h0 (by decide)); have q0 := r5 0 (by decide); have R5 := Lib.hid r5; have HB := Lib.hid hB; clear r5 hB)
        | (go_at_call 151; refine (rDC_any _ _).mono ?_; rintro e w2 ⟨rfl, rfl⟩))
      go_ret2
      refine ⟨_, by rw [E1.out]; rfl, .inr ⟨g, c1, by rw [E2.out]; rfl, r1, by simpa [World.setCell] using r2, by rw [E2.out]; exact r3, r4, ?_⟩, HB.out.setCell r1 _⟩
      rw [E2.out]
      exact (R5.out.set 0 (dcV c))
    · have e1 : aE n f q c = dcE c := by unfold aE; rw [if_pos h1]
      have e2 : aN n f q c = 0 := by unfold aN; rw [if_neg (fun h => h3 h.2)]
      have k3 : (dcE c == 0) = false := by simp; exact h3
      have E1 := Lib.hid e1
      have E2 := Lib.hid e2
      have H1 := Lib.hid h1
      have H2 := Lib.hid h2
      clear e1 e2 h1 h2 h3
      go_enter Tryz.func112, Tryz.ntmps112
      go_wp2_with (first
        | (go_at_call 111; refine (rInter_any _ _ _ _ _ HS.out).mono ?_; rintro e w1 ⟨v1, rfl, hR, hB⟩; rw [H1.out]; rw [H2.out] at hR; rcases hR with ⟨h0, _⟩ | ⟨g, c1, rfl, r1, r2, r3, r4, r5⟩; (exact absurd h0 (by decide)); have q0 := r5 0 (by decide); have R5 := Lib.hid r5; have HB := Lib.hid hB; clear r5 hB)
        | (go_at_call 151; refine (rDC_any _ _).mono ?_; rintro e w2 ⟨rfl, rfl⟩))
      go_ret2
      exact ⟨.slice none 0 0, by rw [E1.out]; rfl, by rw [E2.out]; exact .inl ⟨rfl, rfl⟩, HB.out⟩
  · have e1 : aE n f q c = iE n f q := by unfold aE; rw [if_neg h1]
    have e2 : aN n f q c = 0 := by unfold aN; rw [if_neg (fun h => h1 h.1)]
    have k1 : (iE n f q == 0) = false := by simp; exact h1
    have E1 := Lib.hid e1
    have E2 := Lib.hid e2
    have H2 := Lib.hid h2
    clear e1 e2 h1 h2
    go_enter Tryz.func112, Tryz.ntmps112
    go_wp2_with (go_at_call 111; refine (rInter_any _ _ _ _ _ HS.out).mono ?_; rintro e w1 ⟨v1, rfl, hR, hB⟩; have HB := Lib.hid hB; clear hB hR)
    go_ret2
    exact ⟨.slice none 0 0, by rw [E1.out]; rfl, by rw [E2.out]; exact .inl ⟨rfl, rfl⟩, HB.out⟩
end Qu
end Go.Proofs.YtbmglemjfodfhaaGreat
