/- What the transform comes to: rows, and then columns. -/
import Derived.Test.YtkeefdlnolcapaaCosE
namespace Go.Proofs.Ytkeefdlnolcapaa
namespace Co

theorem accW_congr {l m : Nat → Int} {x n : Nat} (h : ∀ u, u < n → l u = m u) : accW l x n = accW m x n := by
  induction n with
  | zero => rfl
  | succ n ih =>
    have e := ih fun u hu => h u (by omega)
    have e2 := h n (by omega)
    simp only [accW, e, e2]
def rowsC (f : Nat → Int) (i : Nat) : Int := accW (fun u => f (8 * (i / 8) + u)) (i % 8) 8
def colsC (f : Nat → Int) (i : Nat) : Int := accW (fun u => f (8 * u + i % 8)) (i / 8) 8
theorem getAll_k (f : Nat → Int) (a s k : Nat) (hk : k ≤ 8) (j : Nat) : getAll f a s (first8 k) j = if j < k then f (a + j * s) else 0 := by
  induction k with
  | zero => rfl
  | succ k ih =>
    rw [← first8_succ k (by omega), getAll_snoc]
    show (if j = k then f (a + k * s) else getAll f a s (first8 k) j) = _
    rw [ih (by omega)]
    by_cases h : j = k
    · subst h; rw [if_pos rfl, if_pos (by omega)]
    · rw [if_neg h]
      by_cases g : j < k
      · rw [if_pos g, if_pos (by omega)]
      · rw [if_neg g, if_neg (by omega)]
theorem putAll_k (m : Nat → Int) (a s k : Nat) (hs : 1 ≤ s) (hk : k ≤ 8) (f : Nat → Int) (p : Nat) : putAll m a s (first8 k) f p = if a ≤ p ∧ (p - a) % s = 0 ∧ (p - a) / s < k then m ((p - a) / s) else f p := by
  induction k with
  | zero => rw [if_neg (fun h => Nat.not_lt_zero _ h.2.2)]; rfl
  | succ k ih =>
    rw [← first8_succ k (by omega), putAll_snoc]
    show (if p = a + k * s then m k else putAll m a s (first8 k) f p) = _
    rw [ih (by omega)]
    by_cases h : p = a + k * s
    · subst h
      rw [if_pos rfl]
      have e : a + k * s - a = k * s := by omega
      rw [e, Nat.mul_mod_left, Nat.mul_div_cancel _ (by omega : 0 < s), if_pos ⟨by omega, rfl, by omega⟩]
    · rw [if_neg h]
      by_cases g : a ≤ p ∧ (p - a) % s = 0 ∧ (p - a) / s < k
      · rw [if_pos g, if_pos ⟨g.1, g.2.1, by omega⟩]
      · rw [if_neg g, if_neg]
        rintro ⟨g1, g2, g3⟩
        have hk : (p - a) / s = k := by
          rcases Nat.lt_or_ge ((p - a) / s) k with l | l
          · exact absurd ⟨g1, g2, l⟩ g
          · omega
        have := Nat.div_add_mod (p - a) s
        rw [g2, hk, Nat.mul_comm] at this
        omega
theorem lineAt_at (b s : Nat) (hs : 1 ≤ s) (f : Nat → Int) (i : Fin 8) (p : Nat) : lineAt b s f i p = if i.val * b ≤ p ∧ (p - i.val * b) % s = 0 ∧ (p - i.val * b) / s < 8 then accW (fun u => f (i.val * b + u * s)) ((p - i.val * b) / s) 8 else f p := by
  unfold lineAt
  rw [← first8_all, putAll_k _ _ _ _ hs (by omega)]
  by_cases h : i.val * b ≤ p ∧ (p - i.val * b) % s = 0 ∧ (p - i.val * b) / s < 8
  · rw [if_pos h, if_pos h]
    exact accW_congr fun u hu => by rw [getAll_k _ _ _ _ (by omega), if_pos hu]
  · rw [if_neg h, if_neg h]
theorem rows_k (f : Nat → Int) (k : Nat) (hk : k ≤ 8) (i : Nat) : eachF 8 1 f (first8 k) i = if i / 8 < k then rowsC f i else f i := by
  induction k generalizing i with
  | zero => rw [if_neg (by omega)]; rfl
  | succ k ih =>
    rw [← first8_succ k (by omega), eachF_snoc, lineAt_at _ _ (by omega)]
    show (if k * 8 ≤ i ∧ (i - k * 8) % 1 = 0 ∧ (i - k * 8) / 1 < 8 then accW (fun u => eachF 8 1 f (first8 k) (k * 8 + u * 1)) ((i - k * 8) / 1) 8 else eachF 8 1 f (first8 k) i) = _
    rw [ih (by omega)]
    by_cases h : i / 8 = k
    · rw [if_pos (by omega), if_pos (by omega)]
      unfold rowsC
      have e1 : (i - k * 8) / 1 = i % 8 := by omega
      rw [e1]
      refine accW_congr fun u hu => ?_
      rw [ih (by omega), if_neg (by omega)]
      congr 1; omega
    · rw [if_neg (by omega)]
      by_cases g : i / 8 < k
      · rw [if_pos g, if_pos (by omega)]
      · rw [if_neg g, if_neg (by omega)]
theorem cols_k (f : Nat → Int) (k : Nat) (hk : k ≤ 8) (i : Nat) (hi : i < 64) : eachF 1 8 f (first8 k) i = if i % 8 < k then colsC f i else f i := by
  induction k generalizing i with
  | zero => rw [if_neg (by omega)]; rfl
  | succ k ih =>
    rw [← first8_succ k (by omega), eachF_snoc, lineAt_at _ _ (by omega)]
    show (if k * 1 ≤ i ∧ (i - k * 1) % 8 = 0 ∧ (i - k * 1) / 8 < 8 then accW (fun u => eachF 1 8 f (first8 k) (k * 1 + u * 8)) ((i - k * 1) / 8) 8 else eachF 1 8 f (first8 k) i) = _
    rw [ih (by omega) i hi]
    by_cases h : i % 8 = k
    · rw [if_pos (by omega), if_pos (by omega)]
      unfold colsC
      have e1 : (i - k * 1) / 8 = i / 8 := by omega
      rw [e1]
      refine accW_congr fun u hu => ?_
      rw [ih (by omega) _ (by omega), if_neg (by omega)]
      congr 1; omega
    · rw [if_neg (by omega)]
      by_cases g : i % 8 < k
      · rw [if_pos g, if_pos (by omega)]
      · rw [if_neg g, if_neg (by omega)]
theorem each_rows (f : Nat → Int) (i : Nat) (hi : i < 64) : eachF 8 1 f (List.finRange 8) i = rowsC f i := by
  rw [← first8_all, rows_k f 8 (by omega), if_pos (by omega)]
theorem each_cols (f : Nat → Int) (i : Nat) (hi : i < 64) : eachF 1 8 f (List.finRange 8) i = colsC f i := by
  rw [← first8_all, cols_k f 8 (by omega) i hi, if_pos (by omega)]
end Co
end Go.Proofs.Ytkeefdlnolcapaa
