/- What the loop filter comes to: rows and columns, neighbours, turned and mirrored and lighter. -/
import Derived.Test.YtkajfabmdljffaaPlLoop
namespace Go.Proofs.Ytkajfabmdljffaa
namespace Lo

theorem sft_congr {f g : Nat → Int} {i : Nat} (hi : i < 8) (h : ∀ j, j < 8 → f j = g j) : sft f i = sft g i := by
  unfold sft
  by_cases c : i = 0 ∨ i = 7
  · rw [if_pos c, if_pos c, h i hi]
  · rw [if_neg c, if_neg c, h i hi, h (i - 1) (by omega), h (i + 1) (by omega)]
theorem sft_swap (F : Nat → Nat → Int) (x y : Nat) : sft (fun x' => sft (fun y' => F y' x') y) x = sft (fun y' => sft (fun x' => F y' x') x) y := by
  unfold sft
  by_cases c : x = 0 ∨ x = 7 <;> by_cases d : y = 0 ∨ y = 7 <;> simp only [c, d, if_true, if_false] <;> omega
theorem rows_at (f : Nat → Int) (x y : Nat) (hx : x < 8) : rowsF f (8 * y + x) = sft (fun x' => f (8 * y + x')) x := by
  unfold rowsF
  rw [show (8 * y + x) / 8 = y by omega, show (8 * y + x) % 8 = x by omega]
theorem cols_at (f : Nat → Int) (x y : Nat) (hx : x < 8) : colsF f (8 * y + x) = sft (fun y' => f (8 * y' + x)) y := by
  unfold colsF
  rw [show (8 * y + x) / 8 = y by omega, show (8 * y + x) % 8 = x by omega]
theorem cr_at (f : Nat → Int) (x y : Nat) (hx : x < 8) (hy : y < 8) : colsF (rowsF f) (8 * y + x) = sft (fun y' => sft (fun x' => f (8 * y' + x')) x) y := by
  rw [cols_at _ _ _ hx]
  exact sft_congr hy fun j _ => rows_at f x j hx
theorem rc_at (f : Nat → Int) (x y : Nat) (hx : x < 8) : rowsF (colsF f) (8 * y + x) = sft (fun x' => sft (fun y' => f (8 * y' + x')) y) x := by
  rw [rows_at _ _ _ hx]
  exact sft_congr hx fun j hj => cols_at f j y hj
theorem rows_cols (f : Nat → Int) (i : Nat) (hi : i < 64) : rowsF (colsF f) i = colsF (rowsF f) i := by
  have h := cr_at f (i % 8) (i / 8) (by omega) (by omega)
  have k := rc_at f (i % 8) (i / 8) (by omega)
  rw [show 8 * (i / 8) + i % 8 = i by omega] at h k
  rw [h, k]
  exact sft_swap (fun y' x' => f (8 * y' + x')) _ _
/-- every place by its row and its column. -/
theorem filt_at (f : Nat → Int) (x y : Nat) (hx : x < 8) (hy : y < 8) : filt f (8 * y + x) = (sft (fun y' => sft (fun x' => f (8 * y' + x')) x) y + 8) / 16 := by
  unfold filt; rw [cr_at f x y hx hy]
theorem filt_congr {f g : Nat → Int} {i : Nat} (hi : i < 64) (h : ∀ j, j < 64 → f j = g j) : filt f i = filt g i := by
  have e1 := filt_at f (i % 8) (i / 8) (by omega) (by omega)
  have e2 := filt_at g (i % 8) (i / 8) (by omega) (by omega)
  rw [show 8 * (i / 8) + i % 8 = i by omega] at e1 e2
  rw [e1, e2]
  rw [sft_congr (show i / 8 < 8 by omega) (fun y' hy' => sft_congr (show i % 8 < 8 by omega) (fun x' hx' => h (8 * y' + x') (by omega)))]

/-- what a row's place is between, if its own three are. -/
theorem sft_between (g : Nat → Int) (x : Nat) (hx : x < 8) (lo hi : Int) (h : ∀ j, j < 8 → x ≤ j + 1 → j ≤ x + 1 → lo ≤ g j ∧ g j ≤ hi) : 4 * lo ≤ sft g x ∧ sft g x ≤ 4 * hi := by
  unfold sft
  have h0 := h x hx (by omega) (by omega)
  by_cases c : x = 0 ∨ x = 7
  · rw [if_pos c]; omega
  · rw [if_neg c]
    have h1 := h (x - 1) (by omega) (by omega) (by omega)
    have h2 := h (x + 1) (by omega) (by omega) (by omega)
    omega
theorem filt_between (f : Nat → Int) (x y : Nat) (hx : x < 8) (hy : y < 8) (lo hi : Int) (h : ∀ u v, u < 8 → v < 8 → x ≤ u + 1 → u ≤ x + 1 → y ≤ v + 1 → v ≤ y + 1 → lo ≤ f (8 * v + u) ∧ f (8 * v + u) ≤ hi) :
    lo ≤ filt f (8 * y + x) ∧ filt f (8 * y + x) ≤ hi := by
  rw [filt_at f x y hx hy]
  have := sft_between (fun y' => sft (fun x' => f (8 * y' + x')) x) y hy (4 * lo) (4 * hi) fun v hv v1 v2 => sft_between (fun x' => f (8 * v + x')) x hx lo hi fun u hu u1 u2 => h u v hu hv u1 u2 v1 v2
  omega
theorem filt_corner (f : Nat → Int) (x y : Nat) (hx : x = 0 ∨ x = 7) (hy : y = 0 ∨ y = 7) : filt f (8 * y + x) = f (8 * y + x) := by
  rw [filt_at f x y (by omega) (by omega)]
  unfold sft
  simp only [if_pos hy, if_pos hx]
  omega

theorem filt_turned (f : Nat → Int) (i : Nat) (hi : i < 64) : filt (fun i => f (i % 8 * 8 + i / 8)) i = filt f (i % 8 * 8 + i / 8) := by
  have e1 := filt_at (fun i => f (i % 8 * 8 + i / 8)) (i % 8) (i / 8) (by omega) (by omega)
  have e2 := filt_at f (i / 8) (i % 8) (by omega) (by omega)
  rw [show 8 * (i / 8) + i % 8 = i by omega] at e1
  rw [show i % 8 * 8 + i / 8 = 8 * (i % 8) + i / 8 by omega, e1, e2, ← sft_swap (fun y' x' => f (8 * y' + x'))]
  rw [sft_congr (show i / 8 < 8 by omega) (fun y' hy' => sft_congr (show i % 8 < 8 by omega) (fun x' hx' => show (fun i => f (i % 8 * 8 + i / 8)) (8 * y' + x') = f (8 * x' + y') by
    show f ((8 * y' + x') % 8 * 8 + (8 * y' + x') / 8) = _
    congr 1; omega))]
theorem sft_mirror (g h : Nat → Int) (x : Nat) (hx : x < 8) (hg : ∀ j, j < 8 → g j = h (7 - j)) : sft g x = sft h (7 - x) := by
  unfold sft
  by_cases c : x = 0 ∨ x = 7
  · rw [if_pos c, if_pos (by omega), hg x hx]
  · rw [if_neg c, if_neg (by omega), hg x hx, hg (x - 1) (by omega), hg (x + 1) (by omega)]
    rw [show 7 - (x - 1) = 7 - x + 1 by omega, show 7 - (x + 1) = 7 - x - 1 by omega]
    omega
theorem filt_mirrored (f : Nat → Int) (i : Nat) (hi : i < 64) : filt (fun i => f (i / 8 * 8 + 7 - i % 8)) i = filt f (i / 8 * 8 + 7 - i % 8) := by
  have e1 := filt_at (fun i => f (i / 8 * 8 + 7 - i % 8)) (i % 8) (i / 8) (by omega) (by omega)
  have e2 := filt_at f (7 - i % 8) (i / 8) (by omega) (by omega)
  rw [show 8 * (i / 8) + i % 8 = i by omega] at e1
  rw [show i / 8 * 8 + 7 - i % 8 = 8 * (i / 8) + (7 - i % 8) by omega, e1, e2]
  rw [sft_congr (show i / 8 < 8 by omega) (fun y' hy' => sft_mirror (fun x' => f ((8 * y' + x') / 8 * 8 + 7 - (8 * y' + x') % 8)) (fun x' => f (8 * y' + x')) (i % 8) (by omega) fun j hj => by
    show f ((8 * y' + j) / 8 * 8 + 7 - (8 * y' + j) % 8) = f (8 * y' + (7 - j))
    congr 1; omega)]
theorem sft_add (g : Nat → Int) (m : Int) (x : Nat) : sft (fun j => g j + m) x = sft g x + 4 * m := by
  unfold sft; simp only []; split <;> omega
theorem filt_lighter (f : Nat → Int) (m : Int) (i : Nat) (hi : i < 64) : filt (fun i => f i + m) i = filt f i + m := by
  have e1 := filt_at (fun i => f i + m) (i % 8) (i / 8) (by omega) (by omega)
  have e2 := filt_at f (i % 8) (i / 8) (by omega) (by omega)
  rw [show 8 * (i / 8) + i % 8 = i by omega] at e1 e2
  rw [e1, e2]
  have e3 : sft (fun y' => sft (fun x' => f (8 * y' + x') + m) (i % 8)) (i / 8) = sft (fun y' => sft (fun x' => f (8 * y' + x')) (i % 8)) (i / 8) + 16 * m := by
    rw [show (fun y' => sft (fun x' => f (8 * y' + x') + m) (i % 8)) = fun y' => sft (fun x' => f (8 * y' + x')) (i % 8) + 4 * m from funext fun y' => sft_add _ _ _, sft_add]
    omega
  rw [e3]
  omega
end Lo
end Go.Proofs.Ytkajfabmdljffaa
