/- motion: halves, planes, what fits. | motion: Fits. -/
import Derived.Test.YtbmglemjfodfhaaGreatMgFr3
import Derived.Lib.MinMax
import Derived.OpenShut
set_option linter.unusedVariables false
set_option linter.unusedSimpArgs false
namespace Go.Proofs.YtbmglemjfodfhaaGreat
open Go.RowKit
namespace Mo
open Fr
theorem Half_any (x : Int) (hx : -1000000 ≤ x ∧ x ≤ 1000000) (w : World) : Calls Tryz.prog 89 #[.int .i64 x] w fun e w' => e = .returned (.int .i64 (x.tdiv 2)) ∧ w = w' := by
  go_enter Tryz.func89, Tryz.ntmps89
  go_wp2
  go_ret
  exact ⟨rfl, rfl⟩
def inP (W H x y : Int) : Bool := decide (0 ≤ x ∧ x < W ∧ 0 ≤ y ∧ y < H)
def plCells (v : Value) (W H : Int) : Array Value := #[v, .int .i64 W, .int .i64 H]
theorem in_any (v : Value) (a : Option Addr) (n c : Nat) (hv : v = .slice a n c) (W H x y : Int) (w : World) : Calls Tryz.prog 87 #[.agg #[v, .int .i64 W, .int .i64 H], .int .i64 x, .int .i64 y] w fun e w' => e = .returned (.bool (inP W H x y)) ∧ w' = w.alloc (.cells #[v, .int .i64 W, .int .i64 H] 119) := by
  subst hv
  by_cases h1 : 0 ≤ x
  · by_cases h2 : x < W
    · by_cases h3 : 0 ≤ y
      · by_cases h4 : y < H
        · have E : Hid (inP W H x y = true) := Lib.hid (by unfold inP; simp [*])
          go_enter Tryz.func87, Tryz.ntmps87
          go_wp2
          go_ret
          exact ⟨by rw [E.out]; rfl, rfl⟩
        · have E : Hid (inP W H x y = false) := Lib.hid (by unfold inP; simp [*])
          go_enter Tryz.func87, Tryz.ntmps87
          go_wp2
          go_ret
          exact ⟨by rw [E.out]; rfl, rfl⟩
      · have E : Hid (inP W H x y = false) := Lib.hid (by unfold inP; simp [*])
        go_enter Tryz.func87, Tryz.ntmps87
        go_wp2
        go_ret
        exact ⟨by rw [E.out]; rfl, rfl⟩
    · have E : Hid (inP W H x y = false) := Lib.hid (by unfold inP; simp [*])
      go_enter Tryz.func87, Tryz.ntmps87
      go_wp2
      go_ret
      exact ⟨by rw [E.out]; rfl, rfl⟩
  · have E : Hid (inP W H x y = false) := Lib.hid (by unfold inP; simp [*])
    go_enter Tryz.func87, Tryz.ntmps87
    go_wp2
    go_ret
    exact ⟨by rw [E.out]; rfl, rfl⟩
theorem at_any (b o n c : Nat) (f : Nat → Int) (W H : Int) (x y p : Nat) (hp : y * W + x = (p : Int)) (hpn : p < n) (hw : 0 ≤ W ∧ W ≤ 1000) (hx : x ≤ 1000 ∧ y ≤ 1000) (w : World) (h : Ints w .u8 b o n f) :
    Calls Tryz.prog 91 #[.agg #[.slice (some ⟨b, o, none⟩) n c, .int .i64 W, .int .i64 H], .int .i64 x, .int .i64 y] w fun e w' => e = .returned (.int .u8 (f p)) ∧ w' = w.alloc (.cells #[.slice (some ⟨b, o, none⟩) n c, .int .i64 W, .int .i64 H] 119) := by
  have m1 : 0 ≤ (y : Int) * W := Int.mul_nonneg (by omega) hw.1
  have m2 : (y : Int) * W ≤ 1000 * 1000 := Int.mul_le_mul (by omega) hw.2 hw.1 (by omega)
  have e1 := (h.alloc (.cells #[.slice (some ⟨b, o, none⟩) n c, .int .i64 W, .int .i64 H] 119)) p hpn
  have pb : (0 : Int) ≤ (p : Int) ∧ (p : Int) < (n : Int) := by omega
  go_enter Tryz.func91, Tryz.ntmps91
  go_wp2
  go_ret
  exact ⟨rfl, rfl⟩
def vE (n g a x y : Int) : Int :=
  if cE n g a ≠ 0 then cE n g a else if x < -15 ∨ 15 < x ∨ y < -15 ∨ 15 < y then 3 else
    if cX n g a + x < 0 ∨ wV n < cX n g a + x + 16 ∨ cY n g a + y < 0 ∨ hV n < cY n g a + y + 16 then 12 else 0
end Mo
end Go.Proofs.YtbmglemjfodfhaaGreat
namespace Go.Proofs.YtbmglemjfodfhaaGreat
open Go.RowKit
namespace Mo
open Fr
theorem run_max4 {P : Program} (w : World) (ts : Array TypeId) (t : TypeId) (k : IntKind) (a b c d : Int) :
    (Builtin.max_ ts t #[.int k a, .int k b, .int k c, .int k d]).run P w = .ok (.int k (max (max (max a b) c) d)) w := by
  have e : ∀ x y : Int, (if y > x then y else x) = max x y := by
    intro x y
    rw [Int.max_def]
    split <;> split <;> omega
  simp [Builtin.max_, Builtin.max2, e]
theorem cE_cases (n g a : Int) (h : cE n g a = 0) : (n = 0 ∨ n = 1) ∧ inG n g = true ∧ 1 ≤ a ∧ a ≤ 33 := by
  unfold cE at h
  by_cases h1 : n = 0 ∨ n = 1
  · rw [if_pos h1] at h
    by_cases h2 : inG n g = true
    · rw [if_pos h2] at h
      by_cases h3 : a < 1 ∨ 33 < a
      · rw [if_pos h3] at h; omega
      · exact ⟨h1, h2, by omega, by omega⟩
    · rw [if_neg h2] at h; omega
  · rw [if_neg h1] at h; omega
theorem cX_bd (n g a : Int) (h : cE n g a = 0) : 0 ≤ cX n g a ∧ cX n g a + 16 ≤ wV n := by
  obtain ⟨h1, h2, h3, h4⟩ := cE_cases n g a h
  unfold cX
  rw [if_pos h]
  rcases h1 with rfl | rfl
  · rw [if_neg (by decide), show wV 0 = 176 from rfl]; omega
  · have := inG_bd1 h2
    rw [if_pos rfl, show wV 1 = 352 from rfl]; omega
theorem cY_bd (n g a : Int) (h : cE n g a = 0) : 0 ≤ cY n g a ∧ cY n g a + 16 ≤ hV n := by
  obtain ⟨h1, h2, h3, h4⟩ := cE_cases n g a h
  unfold cY
  rw [if_pos h]
  rcases h1 with rfl | rfl
  · rw [show hV 0 = 144 from rfl, inG_0] at *
    simp at h2
    omega
  · have := inG_bd1 h2
    rw [show hV 1 = 288 from rfl]; omega
theorem wh_bd (n : Int) : 0 ≤ wV n ∧ wV n ≤ 352 ∧ 0 ≤ hV n ∧ hV n ≤ 288 := by unfold wV hV; refine ⟨?_, ?_, ?_, ?_⟩ <;> split <;> (try split) <;> omega
theorem neg_wrap (x : Int) (h : (Lit.int .i64 x).wf = true) : wrap64 (-x) = -x ∨ x < -15 := by
  have := bounds_i64 h
  by_cases h1 : x < -15
  · exact .inr h1
  · exact .inl (IntWalk.wrap64_in _ (by omega))
theorem neg_wrap' (x : Int) (h : (Lit.int .i64 x).wf = true) : wrap64 (-x) = -x ∨ x < -1000 := by
  have := bounds_i64 h
  by_cases h1 : x < -1000
  · exact .inr h1
  · exact .inl (IntWalk.wrap64_in _ (by omega))
theorem fits_no (n g a x y : Int) (w : World) (hc : cE n g a ≠ 0) :
    Calls Tryz.prog 45 #[.agg #[.int .i64 n, .int .i64 g, .int .i64 a], .int .i64 x, .int .i64 y] w fun e w' => e = .returned (.int .i64 (vE n g a x y)) ∧ Below w.heap.size w w' := by
  have E : Hid (vE n g a x y = cE n g a) := Lib.hid (by unfold vE; rw [if_pos hc])
  have t0 : (cE n g a != 0) = true := by simpa using hc
  clear hc
  go_enter Tryz.func45, Tryz.ntmps45
  go_wp2_with (first
    | (go_at_call 86; refine (Corner_any n g a _).mono ?_; rintro e w1 ⟨rfl, hB⟩; skip; have HB := Lib.hid (chain (((Below.refl w.heap.size w).alloc (Nat.le_refl _) _)) hB); clear hB)
    | (go_at_call 73; refine (Size_any n _).mono ?_; rintro e w2 ⟨rfl, rfl⟩; skip)
    | (go_at_call 87; have hi := T1.out; clear T1; refine (in_any _ _ _ _ rfl _ _ _ _ _).mono ?_; rintro e w3 ⟨rfl, rfl⟩; rw [hi]; clear hi)
    | (go_at_call 87; have hi := T2.out; clear T2; refine (in_any _ _ _ _ rfl _ _ _ _ _).mono ?_; rintro e w3 ⟨rfl, rfl⟩; rw [hi]; clear hi))
  go_ret
  exact ⟨by rw [E.out]; rfl, HB.out⟩
set_option maxRecDepth 100000 in
theorem fits_far (n g a x y : Int) (w : World) (hx : (Lit.int .i64 x).wf = true) (hy : (Lit.int .i64 y).wf = true) (hc : cE n g a = 0) (hf : x < -15 ∨ 15 < x ∨ y < -15 ∨ 15 < y) :
    Calls Tryz.prog 45 #[.agg #[.int .i64 n, .int .i64 g, .int .i64 a], .int .i64 x, .int .i64 y] w fun e w' => e = .returned (.int .i64 (vE n g a x y)) ∧ Below w.heap.size w w' := by
  have E : Hid (vE n g a x y = 3) := Lib.hid (by unfold vE; rw [if_neg (by omega), if_pos hf])
  have HC := Lib.hid hc
  obtain ⟨M, hM⟩ : ∃ M, max (max (max x (wrap64 (-x))) y) (wrap64 (-y)) = M := ⟨_, rfl⟩
  obtain ⟨m, hm⟩ : ∃ m, min x y = m := ⟨_, rfl⟩
  have mx := fun w' => run_max4 (P := Tryz.prog) w' #[3, 3, 3, 3] 3 .i64 x (wrap64 (-x)) y (wrap64 (-y))
  have mn := fun w' => Lib.run_min_ints (P := Tryz.prog) w' #[3, 3] 3 .i64 .i64 x y
  simp only [hM] at mx
  simp only [hm] at mn
  have n1 := neg_wrap x hx
  have n2 := neg_wrap y hy
  have n3 := neg_wrap' x hx
  have n4 := neg_wrap' y hy
  clear hx hy hc
  by_cases h1 : 15 < M
  · clear hM hm hf n1 n2 n3 n4
    go_enter Tryz.func45, Tryz.ntmps45
    go_wp2_with (first
      | (go_at_call 86; refine (Corner_any n g a _).mono ?_; rintro e w1 ⟨rfl, hB⟩; rw [HC.out]; have HB := Lib.hid (chain (((Below.refl w.heap.size w).alloc (Nat.le_refl _) _)) hB); clear hB)
      | (go_at_call 73; refine (Size_any n _).mono ?_; rintro e w2 ⟨rfl, rfl⟩; skip)
      | (go_at_call 87; have hi := T1.out; clear T1; refine (in_any _ _ _ _ rfl _ _ _ _ _).mono ?_; rintro e w3 ⟨rfl, rfl⟩; rw [hi]; clear hi)
      | (go_at_call 87; have hi := T2.out; clear T2; refine (in_any _ _ _ _ rfl _ _ _ _ _).mono ?_; rintro e w3 ⟨rfl, rfl⟩; rw [hi]; clear hi))
    go_ret
    exact ⟨by rw [E.out]; rfl, HB.out⟩
  · have h2 : m < -15 := by omega
    clear hM hm hf n1 n2 n3 n4
    go_enter Tryz.func45, Tryz.ntmps45
    go_wp2_with (first
      | (go_at_call 86; refine (Corner_any n g a _).mono ?_; rintro e w1 ⟨rfl, hB⟩; rw [HC.out]; have HB := Lib.hid (chain (((Below.refl w.heap.size w).alloc (Nat.le_refl _) _)) hB); clear hB)
      | (go_at_call 73; refine (Size_any n _).mono ?_; rintro e w2 ⟨rfl, rfl⟩; skip)
      | (go_at_call 87; have hi := T1.out; clear T1; refine (in_any _ _ _ _ rfl _ _ _ _ _).mono ?_; rintro e w3 ⟨rfl, rfl⟩; rw [hi]; clear hi)
      | (go_at_call 87; have hi := T2.out; clear T2; refine (in_any _ _ _ _ rfl _ _ _ _ _).mono ?_; rintro e w3 ⟨rfl, rfl⟩; rw [hi]; clear hi))
    go_ret
    exact ⟨by rw [E.out]; rfl, HB.out⟩
set_option maxRecDepth 100000 in
theorem fits_near (n g a x y : Int) (w : World) (hc : cE n g a = 0) (hf : (-15 ≤ x ∧ x ≤ 15) ∧ -15 ≤ y ∧ y ≤ 15) :
    Calls Tryz.prog 45 #[.agg #[.int .i64 n, .int .i64 g, .int .i64 a], .int .i64 x, .int .i64 y] w fun e w' => e = .returned (.int .i64 (vE n g a x y)) ∧ Below w.heap.size w w' := by
  have hX := cX_bd n g a hc
  have hY := cY_bd n g a hc
  have hW := wh_bd n
  have E : vE n g a x y = if cX n g a + x < 0 ∨ wV n < cX n g a + x + 16 ∨ cY n g a + y < 0 ∨ hV n < cY n g a + y + 16 then 12 else 0 := by unfold vE; rw [if_neg (by omega), if_neg (by omega)]
  obtain ⟨X, eX⟩ : ∃ X, cX n g a = X := ⟨_, rfl⟩
  obtain ⟨Y, eY⟩ : ∃ Y, cY n g a = Y := ⟨_, rfl⟩
  obtain ⟨W, eW⟩ : ∃ W, wV n = W := ⟨_, rfl⟩
  obtain ⟨H, eH⟩ : ∃ H, hV n = H := ⟨_, rfl⟩
  rw [eX, eY, eW, eH] at E
  rw [eX, eW] at hX
  rw [eY, eH] at hY
  rw [eW, eH] at hW
  have HC := Lib.hid hc
  have HX := Lib.hid eX
  have HY := Lib.hid eY
  have HW := Lib.hid eW
  have HH := Lib.hid eH
  have EE := Lib.hid E
  have mx := fun w' => run_max4 (P := Tryz.prog) w' #[3, 3, 3, 3] 3 .i64 x (-x) y (-y)
  have mn := fun w' => Lib.run_min_ints (P := Tryz.prog) w' #[3, 3] 3 .i64 .i64 x y
  obtain ⟨M, hM⟩ : ∃ M, max (max (max x (-x)) y) (-y) = M := ⟨_, rfl⟩
  obtain ⟨m, hm⟩ : ∃ m, min x y = m := ⟨_, rfl⟩
  simp only [hM] at mx
  simp only [hm] at mn
  have M1 : M ≤ 15 := by omega
  have m1 : -15 ≤ m := by omega
  clear hc eX eY eW eH E hM hm
  by_cases c1 : inP W H (X + x) (Y + y) = true
  · have T1 := Lib.hid c1
    by_cases c2 : inP W H (X + x + 15) (Y + y + 15) = true
    · have T2 := Lib.hid c2
      have F : Hid (vE n g a x y = 0) := Lib.hid (by rw [EE.out]; unfold inP at c1 c2; simp at c1 c2; rw [if_neg (by omega)])
      clear c1 c2
      go_enter Tryz.func45, Tryz.ntmps45
      go_wp2_with (first
        | (go_at_call 86; refine (Corner_any n g a _).mono ?_; rintro e w1 ⟨rfl, hB⟩; rw [HC.out, HX.out, HY.out]; have cb : w1.cell? ⟨w.heap.size, 0, none⟩ = some (.int .i64 n) := (hB.cell (p := ⟨w.heap.size, 0, none⟩) (by simp)).trans (by rw [cell_of_row _ _ 0 _ _ (0, 0) (heap_alloc_new w _)]; rfl); have HB := Lib.hid (chain (((Below.refl w.heap.size w).alloc (Nat.le_refl _) _)) hB); clear hB)
        | (go_at_call 73; refine (Size_any n _).mono ?_; rintro e w2 ⟨rfl, rfl⟩; rw [HW.out, HH.out])
        | (go_at_call 87; have hi := T1.out; clear T1; refine (in_any _ _ _ _ rfl _ _ _ _ _).mono ?_; rintro e w3 ⟨rfl, rfl⟩; rw [hi]; clear hi)
        | (go_at_call 87; have hi := T2.out; clear T2; refine (in_any _ _ _ _ rfl _ _ _ _ _).mono ?_; rintro e w3 ⟨rfl, rfl⟩; rw [hi]; clear hi))
      go_ret
      exact ⟨by rw [F.out]; rfl, (HB.out.alloc HB.out.size _).alloc (by have := HB.out.size; simp at *; omega) _ |>.alloc (by have := HB.out.size; simp at *; omega) _⟩
    · have T2 : Hid (inP W H (X + x + 15) (Y + y + 15) = false) := Lib.hid (by simpa using c2)
      have F : Hid (vE n g a x y = 12) := Lib.hid (by rw [EE.out]; unfold inP at c1 c2; simp at c1 c2; rw [if_pos (by omega)])
      clear c1 c2
      go_enter Tryz.func45, Tryz.ntmps45
      go_wp2_with (first
        | (go_at_call 86; refine (Corner_any n g a _).mono ?_; rintro e w1 ⟨rfl, hB⟩; rw [HC.out, HX.out, HY.out]; have cb : w1.cell? ⟨w.heap.size, 0, none⟩ = some (.int .i64 n) := (hB.cell (p := ⟨w.heap.size, 0, none⟩) (by simp)).trans (by rw [cell_of_row _ _ 0 _ _ (0, 0) (heap_alloc_new w _)]; rfl); have HB := Lib.hid (chain (((Below.refl w.heap.size w).alloc (Nat.le_refl _) _)) hB); clear hB)
        | (go_at_call 73; refine (Size_any n _).mono ?_; rintro e w2 ⟨rfl, rfl⟩; rw [HW.out, HH.out])
        | (go_at_call 87; have hi := T1.out; clear T1; refine (in_any _ _ _ _ rfl _ _ _ _ _).mono ?_; rintro e w3 ⟨rfl, rfl⟩; rw [hi]; clear hi)
        | (go_at_call 87; have hi := T2.out; clear T2; refine (in_any _ _ _ _ rfl _ _ _ _ _).mono ?_; rintro e w3 ⟨rfl, rfl⟩; rw [hi]; clear hi))
      go_ret
      exact ⟨by rw [F.out]; rfl, (HB.out.alloc HB.out.size _).alloc (by have := HB.out.size; simp at *; omega) _ |>.alloc (by have := HB.out.size; simp at *; omega) _⟩
  · have T1 : Hid (inP W H (X + x) (Y + y) = false) := Lib.hid (by simpa using c1)
    have F : Hid (vE n g a x y = 12) := Lib.hid (by rw [EE.out]; unfold inP at c1; simp at c1; rw [if_pos (by omega)])
    clear c1
    go_enter Tryz.func45, Tryz.ntmps45
    go_wp2_with (first
      | (go_at_call 86; refine (Corner_any n g a _).mono ?_; rintro e w1 ⟨rfl, hB⟩; rw [HC.out, HX.out, HY.out]; have cb : w1.cell? ⟨w.heap.size, 0, none⟩ = some (.int .i64 n) := (hB.cell (p := ⟨w.heap.size, 0, none⟩) (by simp)).trans (by rw [cell_of_row _ _ 0 _ _ (0, 0) (heap_alloc_new w _)]; rfl); have HB := Lib.hid (chain (((Below.refl w.heap.size w).alloc (Nat.le_refl _) _)) hB); clear hB)
      | (go_at_call 73; refine (Size_any n _).mono ?_; rintro e w2 ⟨rfl, rfl⟩; rw [HW.out, HH.out])
      | (go_at_call 87; have hi := T1.out; clear T1; refine (in_any _ _ _ _ rfl _ _ _ _ _).mono ?_; rintro e w3 ⟨rfl, rfl⟩; rw [hi]; clear hi)
      | (go_at_call 87; have hi := T2.out; clear T2; refine (in_any _ _ _ _ rfl _ _ _ _ _).mono ?_; rintro e w3 ⟨rfl, rfl⟩; rw [hi]; clear hi))
    go_ret
    exact ⟨by rw [F.out]; rfl, (HB.out.alloc HB.out.size _).alloc (by have := HB.out.size; simp at *; omega) _⟩
theorem Fits_any (n g a x y : Int) (w : World) (hx : (Lit.int .i64 x).wf = true) (hy : (Lit.int .i64 y).wf = true) :
    Calls Tryz.prog 45 #[.agg #[.int .i64 n, .int .i64 g, .int .i64 a], .int .i64 x, .int .i64 y] w fun e w' => e = .returned (.int .i64 (vE n g a x y)) ∧ Below w.heap.size w w' := by
  by_cases hc : cE n g a = 0
  · by_cases hf : x < -15 ∨ 15 < x ∨ y < -15 ∨ 15 < y
    · exact fits_far n g a x y w hx hy hc hf
    · exact fits_near n g a x y w hc (by omega)
  · exact fits_no n g a x y w hc
end Mo
end Go.Proofs.YtbmglemjfodfhaaGreat
