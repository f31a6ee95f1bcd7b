/- paint: Grey, and Lay and Copy of any arguments; the document's; awake. -/
import Derived.Test.YtkeempljogjceaaGry
import Derived.Test.YtkeempljogjceaaPa5
import Derived.Test.YtkeempljogjceaaLent
namespace Go.Proofs.Ytkeempljogjceaa
open Go.RowKit
namespace Pa
open Fr Pt

/-- how many samples a grey picture has. -/
def gryN (n : Int) : Nat := (zV n).toNat
theorem gry_in {n : Int} (h : n = 0 ∨ n = 1) : (gryN n : Int) = zV n ∧ 8192 < gryN n ∧ gryN n ≤ 200000 := by rcases h with rfl | rfl <;> decide
theorem gry_out {n : Int} (h : ¬ (n = 0 ∨ n = 1)) : gryN n = 0 := by
  unfold gryN zV
  rw [if_neg (by omega), if_neg (by omega)]; rfl
theorem fE_in {n : Int} (h : n = 0 ∨ n = 1) : fE n = 0 := by unfold fE; rw [if_pos h]
theorem fE_out {n : Int} (h : ¬ (n = 0 ∨ n = 1)) : fE n = 3 := by unfold fE; rw [if_neg h]
set_option maxRecDepth 100000 in
theorem Grey_any (n : Int) (w : World) : Calls Try.prog 31 #[.int .i64 n] w fun e w' => ∃ v, e = .returned v ∧ Res .u8 w.heap.size w' v (gryN n) (fun _ => 128) ∧ Below w.heap.size w w' := by
  by_cases h : n = 0 ∨ n = 1
  · have hz := gry_in h
    have HM : ∀ w, Calls Try.prog 65 #[.int .u64 1, .int .u64 (gryN n : Int)] w fun e w' => e = .returned (.tuple #[.int .u64 0, .int .u64 (gryN n : Int)]) ∧ w = w' := by
      rcases h with rfl | rfl
      · exact fun w => Mul_0 w
      · exact fun w => Mul_1 w
    have HF := Lib.hid (fE_in h)
    obtain ⟨Z, hZ⟩ : ∃ Z, gryN n = Z := ⟨_, rfl⟩
    rw [hZ] at hz HM ⊢
    have HZ := Lib.hid hz.1
    have zb := hz.2
    have c128 : (w.alloc (.cells #[.int .u8 128] 5)).cell? ⟨w.heap.size, 0, none⟩ = some (.int .u8 128) := ((Arr.new w .u8 #[.int .u8 128] 5 1 (fun _ => 128) (fun i hi => by
      obtain rfl : i = 0 := by omega
      rfl)) 0 (by omega)).1
    clear hz hZ h
    go_enter Try.func31, Try.ntmps31
    go_wp2_with (go_at_call 44; refine (Size_any n _).mono ?_; rintro e w1 ⟨rfl, rfl⟩; rw [HF.out, ← HZ.out])
    (go_at_call 53; refine (Repeat_any Z _ 128 _ zb HM c128).mono ?_; rintro e w2 ⟨g, rfl, l1, l2, hA, hB⟩; have HA := Lib.hid hA; have HB := Lib.hid (chain ((Below.refl w.heap.size w).alloc (Nat.le_refl _) _) hB); have l3 : w.heap.size ≤ g := Nat.le_trans (by simp) l1; clear hA hB l1)
    go_wp2_with fail
    go_ret
    exact ⟨_, rfl, .inr ⟨g, Z, rfl, l3, l2, Nat.le_refl _, by unfold maxLen; omega, HA.out⟩, HB.out⟩
  · have HF := Lib.hid (fE_out h)
    have HG := Lib.hid (gry_out h)
    clear h
    go_enter Try.func31, Try.ntmps31
    go_wp2_with (go_at_call 44; refine (Size_any n _).mono ?_; rintro e w1 ⟨rfl, rfl⟩; rw [HF.out])
    go_ret
    exact ⟨_, rfl, .inl ⟨HG.out, rfl⟩, Below.refl _ _⟩
set_option maxRecDepth 100000 in
theorem rGrey_any (n : Int) (w : World) : Calls Try.prog 32 #[.int .i64 n] w fun e w' => ∃ v, e = .returned v ∧ Res .u8 w.heap.size w' v (gryN n) (fun _ => 128) ∧ Below w.heap.size w w' := by
  by_cases h : n = 0 ∨ n = 1
  · have hz := gry_in h
    have HF := Lib.hid (fE_in h)
    obtain ⟨Z, hZ⟩ : ∃ Z, gryN n = Z := ⟨_, rfl⟩
    rw [hZ] at hz ⊢
    have HZ := Lib.hid hz.1
    have zb := hz.2
    obtain ⟨i0, hi, hz0, hz1, hz2⟩ := info_parts info_byte
    clear hz hZ h
    go_enter Try.func32, Try.ntmps32
    go_wp2_with (first
      | (go_at_call 54; refine (Rf.rSize_any n _).mono ?_; rintro e w1 ⟨rfl, rfl⟩; rw [HF.out, ← HZ.out])
      | (refine wpList_make_full w rfl _ _ 24 rfl w.heap.size 5 i0 (.int .u8 0) 1 Try.underlying24 hi hz0 hz1 .i64 .i64 _ _ Z rfl rfl rfl rfl (by rw [hz2]; omega) (by unfold maxLen; omega) (Nat.le_refl _) ?_; intro w1 hown hgr; have HA := Lib.hid (made_arr hown); have HB := Lib.hid ((Below.refl w.heap.size w).grown hgr (Nat.le_refl _) (fun _ e => by cases e)); clear hown hgr))
    go_loopw [8] (fun i wr => ∃ k : Nat, k ≤ Z ∧ i = .int .i64 k ∧ Arr wr .u8 w.heap.size Z (fun i => if i < k then 128 else 0) ∧ Below w.heap.size w wr) (fun i _ => Z - (intOf i).toNat)
    case atStart => exact ⟨0, by omega, rfl, HA.out.start, HB.out⟩
    case round =>
      clear HA HB
      obtain ⟨k, hk, rfl, hA, hB⟩ := hrel
      by_cases hkn : k < Z
      · have c1 := hA k hkn
        simp only [Nat.lt_irrefl, if_false] at c1
        have HA := Lib.hid hA
        have HB := Lib.hid hB
        have kb : (0 : Int) ≤ (k : Int) ∧ (k : Int) < (Z : Int) := by omega
        clear hA hB
        go_wp2_with fail
        go_roundw
        case rel => exact ⟨k + 1, by omega, by go_num, Arr.fill (g := fun _ => 128) HA.out 128 rfl, HB.out.setCell (p := ⟨w.heap.size, k, none⟩) (Nat.le_refl _) _⟩
        case measure => simp [intOf]; omega
      · have hk' : Z ≤ k := by omega
        have HA : Hid (Arr wr .u8 w.heap.size Z (fun _ => 128)) := Lib.hid (hA.congr (fun i hi => by rw [if_pos (by omega)]))
        have HB := Lib.hid hB
        have hlt := hA.lt (show 0 < Z by omega)
        clear hA hB
        go_wp2_with fail
        go_ret
        exact ⟨_, rfl, .inr ⟨w.heap.size, Z, rfl, Nat.le_refl _, hlt, Nat.le_refl _, by unfold maxLen; omega, HA.out⟩, HB.out⟩
  · have HF := Lib.hid (fE_out h)
    have HG := Lib.hid (gry_out h)
    clear h
    go_enter Try.func32, Try.ntmps32
    go_wp2_with (go_at_call 54; refine (Rf.rSize_any n _).mono ?_; rintro e w1 ⟨rfl, rfl⟩; rw [HF.out])
    go_ret
    exact ⟨_, rfl, .inl ⟨HG.out, rfl⟩, Below.refl _ _⟩

/-- a picture, a block laid into it. -/
def layG (n g a k : Int) (N M : Nat) (s f : Nat → Int) : Nat → Int := if layE n g a k N M = 0 then layN (pA n g a k).toNat (pS n g a k).toNat s f 64 else f
/-- a picture, a macroblock of another one copied into it. -/
def copG (n g a : Int) (N M : Nat) (F f : Nat → Int) : Nat → Int := if copE n g a N M = 0 then copF n g a F f 6 else f
theorem layE_zero {n g a k : Int} {N M : Nat} (h : layE n g a k N M = 0) : cE n g a = 0 ∧ (N : Int) = zV n ∧ M = 64 ∧ 1 ≤ k ∧ k ≤ 6 := by
  unfold layE at h
  by_cases h1 : cE n g a = 0
  · rw [if_neg (by omega)] at h
    by_cases h2 : (N : Int) ≠ zV n ∨ M ≠ 64
    · rw [if_pos h2] at h; cases h
    · rw [if_neg h2] at h
      by_cases h3 : k < 1 ∨ 6 < k
      · rw [if_pos h3] at h; cases h
      · omega
  · rw [if_pos h1] at h; exact absurd h h1
theorem layE_ok {n g a k : Int} {N M : Nat} (h1 : cE n g a = 0) (h2 : (N : Int) = zV n) (h3 : M = 64) (h4 : 1 ≤ k ∧ k ≤ 6) : layE n g a k N M = 0 := by
  unfold layE
  rw [if_neg (by omega), if_neg (by omega), if_neg (by omega)]
theorem zV_big {n g a : Int} (hc : cE n g a = 0) : 38016 ≤ zV n ∧ zV n ≤ 152064 := by rcases (cE_cases n g a hc).1 with rfl | rfl <;> decide
theorem sl_row {w : World} {q : Option Addr} {M d : Nat} {s : Nat → Int} (h : Sl .u8 w (.slice q M d) M s) (h0 : 0 < M) : ∃ b o, q = some ⟨b, o, none⟩ ∧ M ≤ d ∧ Ints w .u8 b o M s := by
  obtain ⟨a, c, e, h1, _, h3⟩ := h
  cases e
  rcases h3 with ⟨e, _⟩ | ⟨b, o, e, _, h4⟩
  · exact absurd e (by omega)
  · exact ⟨b, o, e, h1, h4⟩
theorem Lay_any (b N R c : Nat) (q : Option Addr) (M d : Nat) (f s : Nat → Int) (n g a k : Int) (w : World) (hA : Arr w .u8 b R f) (hR : N ≤ R) (hNc : N ≤ c) (h0 : 0 < R) (hs : Sl .u8 w (.slice q M d) M s) (hne : 0 < M → ∀ x, q = some x → x.block ≠ b) :
    Calls Try.prog 28 #[.slice (some ⟨b, 0, none⟩) N c, .agg #[.int .i64 n, .int .i64 g, .int .i64 a], .int .i64 k, .slice q M d] w fun e w' => e = .returned (.int .i64 (layE n g a k N M)) ∧ Arr w' .u8 b R (layG n g a k N M s f) ∧ w.grownBy w' (some b) := by
  have hb := hA.lt h0
  have out : layE n g a k N M ≠ 0 → ∀ (e : Ending) (w' : World), e = .returned (.int .i64 (layE n g a k N M)) ∧ Below w.heap.size w w' → e = .returned (.int .i64 (layE n g a k N M)) ∧ Arr w' .u8 b R (layG n g a k N M s f) ∧ w.grownBy w' (some b) := fun hE e w' h => ⟨h.1, by unfold layG; rw [if_neg hE]; exact hA.below h.2 hb, grown_of_below h.2 _⟩
  by_cases h1 : cE n g a = 0
  · by_cases h2 : (N : Int) = zV n
    · by_cases h3 : M = 64
      · subst h3
        by_cases h4 : 1 ≤ k ∧ k ≤ 6
        · obtain ⟨sb, so, rfl, hd, hI⟩ := sl_row hs (by omega)
          have hE := layE_ok h1 h2 rfl h4
          have fit := place_fit n g a k h1 h4
          rw [hE]
          refine (lay_yes b N R c sb so d (pA n g a k).toNat (pS n g a k).toNat f s n g a k w hA hR hNc hI hd (hne (by omega) _ rfl) h1 h2 h4 (by omega) (by omega)).mono ?_
          rintro e w' ⟨rfl, h5, h6⟩
          exact ⟨rfl, by unfold layG; rw [if_pos hE]; exact h5, h6⟩
        · exact (lay_no4 _ _ N c d n g a k w h1 h2 (by omega)).mono (out (fun h => h4 (layE_zero h).2.2.2))
      · exact (lay_no3 _ _ N c M d n g a k w h1 h2 h3).mono (out (fun h => h3 (layE_zero h).2.2.1))
    · exact (lay_no2 _ _ N c M d n g a k w h1 h2).mono (out (fun h => h2 (layE_zero h).2.1))
  · exact (lay_no1 _ _ N c M d n g a k w h1).mono (out (fun h => h1 (layE_zero h).1))
theorem refE_one (n g a : Int) (N : Nat) : refE n g a 1 (fun _ => (N : Int)) = if cE n g a ≠ 0 then cE n g a else if (N : Int) = zV n then 0 else 2 := by
  unfold refE
  by_cases h1 : cE n g a = 0
  · rw [if_neg (show ¬ cE n g a ≠ 0 by omega), if_neg (show ¬ cE n g a ≠ 0 by omega)]
    by_cases h2 : (N : Int) = zV n
    · rw [if_pos (show allZ _ _ 1 from fun i _ => h2), if_pos h2]
    · rw [if_neg (show ¬ allZ _ _ 1 from fun h => h2 (h 0 (by omega))), if_neg h2]
  · rw [if_pos h1, if_pos h1]
theorem rLay_any (b N R c : Nat) (q : Option Addr) (M d : Nat) (f s : Nat → Int) (n g a k : Int) (w : World) (hA : Arr w .u8 b R f) (hR : N ≤ R) (h0 : 0 < R) (hs : Sl .u8 w (.slice q M d) M s) (hne : 0 < M → ∀ x, q = some x → x.block ≠ b) (hRN : (N : Int) = zV n → R = N) :
    Calls Try.prog 29 #[.slice (some ⟨b, 0, none⟩) N c, .agg #[.int .i64 n, .int .i64 g, .int .i64 a], .int .i64 k, .slice q M d] w fun e w' => e = .returned (.int .i64 (layE n g a k N M)) ∧ Arr w' .u8 b R (layG n g a k N M s f) ∧ w.grownBy w' (some b) := by
  have hb := hA.lt h0
  have out : ∀ x, layE n g a k N M = x → x ≠ 0 → ∀ (e : Ending) (w' : World), e = .returned (.int .i64 x) ∧ Below w.heap.size w w' → e = .returned (.int .i64 (layE n g a k N M)) ∧ Arr w' .u8 b R (layG n g a k N M s f) ∧ w.grownBy w' (some b) := fun x hx hE e w' h => ⟨by rw [hx]; exact h.1, by unfold layG; rw [hx, if_neg hE]; exact hA.below h.2 hb, grown_of_below h.2 _⟩
  by_cases h1 : cE n g a = 0
  · by_cases h2 : (N : Int) = zV n
    · have hr : refE n g a 1 (fun _ => (N : Int)) = 0 := by rw [refE_one, if_neg (by omega), if_pos h2]
      by_cases h3 : M = 64
      · subst h3
        by_cases h4 : 1 ≤ k ∧ k ≤ 6
        · obtain ⟨sb, so, rfl, hd, hI⟩ := sl_row hs (by omega)
          have hE := layE_ok h1 h2 rfl h4
          have fit := place_fit n g a k h1 h4
          obtain rfl := hRN h2
          rw [hE]
          refine (rlay_yes b R c sb so d (pA n g a k).toNat (pS n g a k).toNat f s n g a k w hA hI (hne (by omega) _ rfl) h1 h2 h4 (by omega) (by omega)).mono ?_
          rintro e w' ⟨rfl, h5, h6⟩
          exact ⟨rfl, by unfold layG; rw [if_pos hE]; exact h5, h6⟩
        · have e1 : pE n g a k = 3 := by unfold pE; rw [if_neg (by omega), if_pos (by omega)]
          have e2 : layE n g a k N 64 = 3 := by unfold layE; rw [if_neg (by omega), if_neg (by omega), if_pos (by omega)]
          have := rlay_no3 (some ⟨b, 0, none⟩) q N c d n g a k w hr (by omega)
          rw [e1] at this
          exact this.mono (out 3 e2 (by decide))
      · have e2 : layE n g a k N M = 2 := by unfold layE; rw [if_neg (by omega), if_pos (by omega)]
        exact (rlay_no2 _ _ N c M d n g a k w hr h3).mono (out 2 e2 (by decide))
    · have hr : refE n g a 1 (fun _ => (N : Int)) = 2 := by rw [refE_one, if_neg (by omega), if_neg h2]
      have e2 : layE n g a k N M = 2 := by unfold layE; rw [if_neg (by omega), if_pos (by omega)]
      have := rlay_no1 (some ⟨b, 0, none⟩) q N c M d n g a k w (by omega)
      rw [hr] at this
      exact this.mono (out 2 e2 (by decide))
  · have hr : refE n g a 1 (fun _ => (N : Int)) = cE n g a := by rw [refE_one, if_pos h1]
    have e2 : layE n g a k N M = cE n g a := by unfold layE; rw [if_pos h1]
    have := rlay_no1 (some ⟨b, 0, none⟩) q N c M d n g a k w (by omega)
    rw [hr] at this
    exact this.mono (out _ e2 h1)
theorem Copy_any (b N R c : Nat) (q : Option Addr) (M d : Nat) (f F : Nat → Int) (n g a : Int) (w : World) (hA : Arr w .u8 b R f) (hR : N ≤ R) (hNc : N ≤ c) (h0 : 0 < R) (hs : Sl .u8 w (.slice q M d) M F) (hne : 0 < M → ∀ x, q = some x → x.block ≠ b) :
    Calls Try.prog 12 #[.slice (some ⟨b, 0, none⟩) N c, .slice q M d, .agg #[.int .i64 n, .int .i64 g, .int .i64 a]] w fun e w' => e = .returned (.int .i64 (copE n g a N M)) ∧ Arr w' .u8 b R (copG n g a N M F f) ∧ w.grownBy w' (some b) := by
  have hb := hA.lt h0
  have out : copE n g a N M ≠ 0 → ∀ (e : Ending) (w' : World), e = .returned (.int .i64 (copE n g a N M)) ∧ Below w.heap.size w w' → e = .returned (.int .i64 (copE n g a N M)) ∧ Arr w' .u8 b R (copG n g a N M F f) ∧ w.grownBy w' (some b) := fun hE e w' h => ⟨h.1, by unfold copG; rw [if_neg hE]; exact hA.below h.2 hb, grown_of_below h.2 _⟩
  by_cases h1 : cE n g a = 0
  · by_cases h2 : (N : Int) = zV n
    · by_cases h3 : M = N
      · subst h3
        have zb := zV_big h1
        obtain ⟨sb, so, rfl, hd, hI⟩ := sl_row hs (by omega)
        have hE := copE_ok h1 h2 h2
        rw [hE]
        refine (copy_yes b M R c sb so d f F n g a w hA hR hNc hI hd (hne (by omega) _ rfl) h1 h2).mono ?_
        rintro e w' ⟨rfl, h5, h6⟩
        exact ⟨rfl, by unfold copG; rw [if_pos hE]; exact h5, h6⟩
      · exact (copy_no3 _ _ N c M d n g a w h1 h2 h3).mono (out (fun h => h3 (by have := copE_zero h; omega)))
    · exact (copy_no2 _ _ N c M d n g a w h1 h2).mono (out (fun h => h2 (copE_zero h).2.1))
  · exact (copy_no1 _ _ N c M d n g a w h1).mono (out (fun h => h1 (copE_zero h).1))
theorem rCopy_any (b N R c : Nat) (q : Option Addr) (M d : Nat) (f F : Nat → Int) (n g a : Int) (w : World) (hA : Arr w .u8 b R f) (h0 : 0 < R) (hs : Sl .u8 w (.slice q M d) M F) (hne : 0 < M → ∀ x, q = some x → x.block ≠ b) (hRN : (N : Int) = zV n → R = N) :
    Calls Try.prog 30 #[.slice (some ⟨b, 0, none⟩) N c, .slice q M d, .agg #[.int .i64 n, .int .i64 g, .int .i64 a]] w fun e w' => e = .returned (.int .i64 (copE n g a N M)) ∧ Arr w' .u8 b R (copG n g a N M F f) ∧ w.grownBy w' (some b) := by
  have hb := hA.lt h0
  by_cases hE : copE n g a N M = 0
  · obtain ⟨h1, h2, h3⟩ := copE_zero hE
    obtain rfl : M = N := by omega
    have zb := zV_big h1
    obtain ⟨sb, so, rfl, hd, hI⟩ := sl_row hs (by omega)
    obtain rfl := hRN h2
    rw [hE]
    refine (rcopy_yes b R c sb so d f F n g a w hA hI (hne (by omega) _ rfl) h1 h2).mono ?_
    rintro e w' ⟨rfl, h5, h6⟩
    exact ⟨rfl, by unfold copG; rw [if_pos hE]; exact h5, h6⟩
  · refine (rcopy_no _ _ N c M d n g a w hE).mono ?_
    rintro e w' ⟨h, h2⟩
    exact ⟨h, by unfold copG; rw [if_neg hE]; exact hA.below h2 hb, grown_of_below h2 _⟩
/-- what stands behind a row's end stays. -/
theorem lay_lent (A S N : Nat) (s f : Nat → Int) (h : A + 7 * S + 8 ≤ N) : ∀ k, k ≤ 64 → layN A S s (lentF N f) k = lentF N (layN A S s f k)
  | 0, _ => rfl
  | k + 1, hk => by
    have ih := lay_lent A S N s f h k (by omega)
    have hjS : k / 8 * S ≤ 7 * S := Nat.mul_le_mul_right S (by omega)
    funext i
    show putOne A S s (layN A S s (lentF N f) k) k i = lentF N (putOne A S s (layN A S s f k) k) i
    rw [ih]
    unfold putOne lentF
    dsimp only
    by_cases hi : i = A + k / 8 * S + k % 8
    · rw [if_pos hi, if_pos (by omega), if_pos hi]
    · rw [if_neg hi, if_neg hi]
theorem layG_lent (n g a k : Int) (N M : Nat) (s f : Nat → Int) : layG n g a k N M s (lentF N f) = lentF N (layG n g a k N M s f) := by
  unfold layG
  by_cases h : layE n g a k N M = 0
  · rw [if_pos h, if_pos h]
    obtain ⟨h1, h2, _, h4⟩ := layE_zero h
    have fit := place_fit n g a k h1 h4
    exact lay_lent _ _ N s f (by omega) 64 (by omega)
  · rw [if_neg h, if_neg h]
theorem copF_lent (n g a : Int) (N : Nat) (F f : Nat → Int) (hc : cE n g a = 0) (hN : (N : Int) = zV n) : ∀ k, k ≤ 6 → copF n g a F (lentF N f) k = lentF N (copF n g a F f k)
  | 0, _ => rfl
  | k + 1, hk => by
    have ih := copF_lent n g a N F f hc hN k (by omega)
    have fit := bl_fit n g a (k + 1) hc (by omega)
    show layN _ _ _ (copF n g a F (lentF N f) k) 64 = lentF N (layN _ _ _ (copF n g a F f k) 64)
    rw [ih]
    exact lay_lent _ _ N _ _ (by omega) 64 (by omega)
theorem copG_lent (n g a : Int) (N M : Nat) (F f : Nat → Int) : copG n g a N M F (lentF N f) = lentF N (copG n g a N M F f) := by
  unfold copG
  by_cases h : copE n g a N M = 0
  · rw [if_pos h, if_pos h]
    exact copF_lent n g a N F f (copE_zero h).1 (copE_zero h).2.1 6 (by omega)
  · rw [if_neg h, if_neg h]
end Pa
end Go.Proofs.Ytkeempljogjceaa
