/- What loop.Soften comes to. -/
import Derived.Test.YtkajfabmdljffaaLoopB
namespace Go.Proofs.Ytkajfabmdljffaa
open Go.RowKit
namespace Lo

def inB (x : Int) : Bool := decide (-1099511627776 ≤ x ∧ x ≤ 1099511627776)
theorem inB_yes {x : Int} (h : inB x = true) : -1099511627776 ≤ x ∧ x ≤ 1099511627776 := by unfold inB at h; simpa using h
theorem inB_no {x : Int} (h : inB x = false) : x < -1099511627776 ∨ 1099511627776 < x := by unfold inB at h; simp only [decide_eq_false_iff_not] at h; omega
/-- may the first k numbers all be softened? -/
def okS (f : Nat → Int) (k : Nat) : Bool := (List.range k).all fun i => inB (f i)
theorem okS_succ (f : Nat → Int) (k : Nat) : okS f (k + 1) = (okS f k && inB (f k)) := by unfold okS; rw [List.range_succ]; simp
theorem okS_at {f : Nat → Int} {k : Nat} (h : okS f k = true) (i : Nat) (hi : i < k) : inB (f i) = true := by
  unfold okS at h; rw [List.all_eq_true] at h; exact h i (List.mem_range.2 hi)
theorem okS_not {f : Nat → Int} {k i : Nat} (hi : i < k) (h : inB (f i) = false) : okS f k = false := by
  cases e : okS f k
  · rfl
  · rw [okS_at e i hi] at h; cases h
/-- the error of Soften, and how many numbers it tells. -/
def sE (n : Nat) (f : Nat → Int) : Int := if n = 8 then (if okS f 8 then 0 else 2) else 2
def sN (n : Nat) (f : Nat → Int) : Nat := if n = 8 then (if okS f 8 then 8 else 0) else 0
/-- what Soften comes to. -/
def Softens (w : World) (n : Nat) (f : Nat → Int) (e : Ending) (w' : World) : Prop :=
  ∃ v, e = .returned (.tuple #[v, .int .i64 (sE n f)]) ∧ Res .i64 w.heap.size w' v (sN n f) (sft f) ∧ Below w.heap.size w w'

theorem soften_long (a : Option Addr) (n c : Nat) (f : Nat → Int) (w : World) (h : n ≠ 8) :
    Calls Try.prog 38 #[.slice a n c] w (Softens w n f) := by
  have e1 : sE n f = 2 := by unfold sE; rw [if_neg h]
  have e2 : sN n f = 0 := by unfold sN; rw [if_neg h]
  have k : ((n : Int) == 8) = false := by simp; omega
  have E1 := Lib.hid e1
  have E2 := Lib.hid e2
  clear e1 e2
  go_enter Try.func38, Try.ntmps38
  go_wp2
  go_ret2
  exact ⟨.slice none 0 0, by rw [E1.out]; rfl, by rw [E2.out]; exact .inl ⟨rfl, rfl⟩, Below.refl _ _⟩

theorem upTo_eight (f : Nat → Int) (i : Nat) (hi : i < 8) : upTo (fun j => if j < 8 then f j else 0) 0 1 8 i = sft f i := by
  unfold upTo
  rw [if_pos (by omega)]
  have e : (i - 0) / 1 = i := by omega
  rw [e]
  unfold sft
  simp only [Nat.mul_one, Nat.zero_add]
  by_cases h : i = 0 ∨ i = 7
  · rw [if_pos h, if_pos h, if_pos hi]
  · rw [if_neg h, if_neg h, if_pos (by omega), if_pos hi, if_pos (by omega)]

set_option maxRecDepth 100000 in
set_option maxHeartbeats 1000000 in
theorem soften_row (b o c : Nat) (f : Nat → Int) (w : World) (h : Ints w .i64 b o 8 f) :
    Calls Try.prog 38 #[.slice (some ⟨b, o, none⟩) 8 c] w (Softens w 8 f) := by
  have hblt := h.lt (by omega)
  have H := Lib.hid h
  have HE : Hid (sE 8 f = if okS f 8 then 0 else 2) := by show _ = _; unfold sE; rw [if_pos rfl]
  have HN : Hid (sN 8 f = if okS f 8 then 8 else 0) := by show _ = _; unfold sN; rw [if_pos rfl]
  clear h
  go_enter Try.func38, Try.ntmps38
  go_wp2
  go_loopw [12] (fun i wr => ∃ k : Nat, k ≤ 8 ∧ i = .int .i64 k ∧ Arr wr .i64 w.heap.size 64 (fun i => if i < k then f i else 0) ∧ okS f k = true ∧ Below w.heap.size w wr) (fun i _ => 8 - (intOf i).toNat)
  case atStart => exact ⟨0, by omega, rfl, (made w .i64 62 64 (fun _ => 0)).start, rfl, (Below.refl _ _).alloc (Nat.le_refl _) _⟩
  case round =>
    obtain ⟨k, hk, rfl, hA, hok, hB⟩ := hrel
    by_cases hk8 : k < 8
    · have ck := (H.out.below hB hblt).at k hk8
      have cz := hA k (by omega)
      have kb : (0 : Int) ≤ (k : Int) ∧ (k : Int) < 8 := by omega
      have HA := Lib.hid hA
      have HB := Lib.hid hB
      have OK := Lib.hid hok
      clear hA hB hok
      cases hkk : inB (f k)
      · have ea := okS_not hk8 hkk
        have EA := Lib.hid ea
        rcases inB_no hkk with g | g
        · have _d : decide (f k < -1099511627776) = true := by simp; omega
          clear hkk ea
          go_wp2
          go_ret2
          exact ⟨.slice none 0 0, by rw [HE.out, EA.out]; rfl, by rw [HN.out, EA.out]; exact .inl ⟨rfl, rfl⟩, HB.out⟩
        · have _d : decide (f k < -1099511627776) = false := by simp; omega
          have _d2 : decide (1099511627776 < f k) = true := by simp; omega
          clear hkk ea
          go_wp2
          go_ret2
          exact ⟨.slice none 0 0, by rw [HE.out, EA.out]; rfl, by rw [HN.out, EA.out]; exact .inl ⟨rfl, rfl⟩, HB.out⟩
      · have g := inB_yes hkk
        have _d : decide (f k < -1099511627776) = false := by simp; omega
        have _d2 : decide (1099511627776 < f k) = false := by simp; omega
        have KK := Lib.hid hkk
        clear hkk
        go_wp2
        go_roundw
        case rel => exact ⟨k + 1, by omega, by go_num, HA.out.fill (f k) rfl, by rw [okS_succ, OK.out, KK.out]; rfl, HB.out.setCell (Nat.le_refl _) _⟩
        case measure => simp [intOf]; omega
    · have hA' : Arr wr .i64 w.heap.size 64 (fun i => if i < 8 then f i else 0) := by
        obtain rfl : k = 8 := by omega
        exact hA
      have hok' : okS f 8 = true := by
        obtain rfl : k = 8 := by omega
        exact hok
      have bd : Hid (∀ i, -17592186044416 ≤ (if i < 8 then f i else 0) ∧ (if i < 8 then f i else 0) ≤ 17592186044416) := by
        intro i
        split
        · have := inB_yes (okS_at hok' i (by omega)); omega
        · omega
      have he : sE 8 f = 0 := by rw [HE.out, hok']; rfl
      have hn : sN 8 f = 8 := by rw [HN.out, hok']; rfl
      have hk' : 8 ≤ k := by omega
      have HA := Lib.hid hA'
      have HB := Lib.hid hB
      have HE' := Lib.hid he
      have HN' := Lib.hid hn
      clear hA hA' hB hok hok' hk hk8 he hn
      go_wp2_with (go_at_call 54; ((with_reducible refine (soften_at w.heap.size 0 1 0 1 rfl rfl _ _ HA.out (by omega) (by decide) bd.out).mono ?_); rintro e w1 ⟨rfl, h1, g1⟩))
      go_ret2
      have hlt := h1.lt (by decide)
      refine ⟨_, by rw [HE'.out]; rfl, ?_, HB.out.grown g1 HB.out.size (fun j hj => by cases hj; exact Nat.le_refl _)⟩
      rw [HN'.out]
      exact .inr ⟨w.heap.size, 8, rfl, Nat.le_refl _, hlt, Nat.le_refl _, by decide, fun i hi => by have := h1 i (by omega); rw [upTo_eight f i hi] at this; exact this⟩

theorem Soften_any (v : Value) (n : Nat) (f : Nat → Int) (w : World) (hs : Sl .i64 w v n f) :
    Calls Try.prog 38 #[v] w (Softens w n f) := by
  obtain ⟨a, c, rfl, h1, h2, h3⟩ := hs
  by_cases h : n = 8
  · subst h
    rcases h3 with ⟨h3, _⟩ | ⟨b, o, rfl, _, h4⟩
    · omega
    · exact soften_row b o c f w h4
  · exact soften_long a n c f w h

/-- what Filter comes to. -/
def fE (n : Nat) : Int := if n = 64 then 0 else 2
def fN (n : Nat) : Nat := if n = 64 then 64 else 0
def Filters (w : World) (n : Nat) (f : Nat → Int) (e : Ending) (w' : World) : Prop :=
  ∃ v, e = .returned (.tuple #[v, .int .i64 (fE n)]) ∧ Res .u8 w.heap.size w' v (fN n) (filt f) ∧ Below w.heap.size w w'
theorem filter_long (a : Option Addr) (n c : Nat) (f : Nat → Int) (w : World) (h : n ≠ 64) :
    Calls Try.prog 36 #[.slice a n c] w (Filters w n f) := by
  have e1 : fE n = 2 := by unfold fE; rw [if_neg h]
  have e2 : fN n = 0 := by unfold fN; rw [if_neg h]
  have k : ((n : Int) == 64) = false := by simp; omega
  have E1 := Lib.hid e1
  have E2 := Lib.hid e2
  clear e1 e2
  go_enter Try.func36, Try.ntmps36
  go_wp2
  go_ret2
  exact ⟨.slice none 0 0, by rw [E1.out]; rfl, by rw [E2.out]; exact .inl ⟨rfl, rfl⟩, Below.refl _ _⟩
/-- a byte's bounds, at places up to n alone. -/
theorem Filter_any (v : Value) (n : Nat) (f : Nat → Int) (w : World) (hs : Sl .u8 w v n f) (hf : ∀ i, 0 ≤ f i ∧ f i ≤ 255) :
    Calls Try.prog 36 #[v] w (Filters w n f) := by
  obtain ⟨a, c, rfl, h1, h2, h3⟩ := hs
  by_cases h : n = 64
  · subst h
    rcases h3 with ⟨h3, _⟩ | ⟨b, o, rfl, _, h4⟩
    · omega
    · exact (filter_row b o c f w h4 hf).mono fun e w' ⟨g, c', he, r1, r2, r3, r4, r5, r6⟩ => ⟨_, he, .inr ⟨g, c', rfl, r1, r2, r3, r4, r5⟩, r6⟩
  · exact filter_long a n c f w h
end Lo
end Go.Proofs.Ytkajfabmdljffaa
