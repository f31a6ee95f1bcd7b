/- What the loop filter comes to: numbers by places, no program in sight. -/
namespace Go.Proofs.YtbmglemjfodfhaaGreat
namespace Lo
def sft (f : Nat → Int) (i : Nat) : Int := if i = 0 ∨ i = 7 then 4 * f i else f (i - 1) + 2 * f i + f (i + 1)
def upTo (f : Nat → Int) (a s k : Nat) (i : Nat) : Int := if a ≤ i ∧ (i - a) % s = 0 ∧ (i - a) / s < k then sft (fun j => f (a + j * s)) ((i - a) / s) else f i
def rowsF (f : Nat → Int) (i : Nat) : Int := sft (fun x => f (8 * (i / 8) + x)) (i % 8)
def colsF (f : Nat → Int) (i : Nat) : Int := sft (fun y => f (8 * y + i % 8)) (i / 8)
def filt (f : Nat → Int) (i : Nat) : Int := (colsF (rowsF f) i + 8) / 16
theorem upTo_zero (f : Nat → Int) (a s i : Nat) : upTo f a s 0 i = f i := by unfold upTo; rw [if_neg (fun h => Nat.not_lt_zero _ h.2.2)]
theorem upTo_succ (f : Nat → Int) (a s k i : Nat) (hs : 1 ≤ s) : upTo f a s (k + 1) i = if i = a + k * s then sft (fun j => f (a + j * s)) k else upTo f a s k i := by
  unfold upTo
  by_cases h : i = a + k * s
  · subst h
    rw [if_pos rfl]
    have e : a + k * s - a = k * s := by omega
    rw [e, Nat.mul_mod_left, Nat.mul_div_cancel _ (by omega : 0 < s), if_pos ⟨by omega, rfl, by omega⟩]
  · rw [if_neg h]
    by_cases g : a ≤ i ∧ (i - a) % s = 0 ∧ (i - a) / s < k
    · rw [if_pos g, if_pos ⟨g.1, g.2.1, by omega⟩]
    · rw [if_neg g, if_neg]
      rintro ⟨g1, g2, g3⟩
      have hk : (i - a) / s = k := by
        rcases Nat.lt_or_ge ((i - a) / s) k with l | l
        · exact absurd ⟨g1, g2, l⟩ g
        · omega
      have := Nat.div_add_mod (i - a) s
      rw [g2, hk, Nat.mul_comm] at this
      omega
theorem sft_lohi (f : Nat → Int) (lo hi : Int) (h : ∀ i, lo ≤ f i ∧ f i ≤ hi) (i : Nat) : 4 * lo ≤ sft f i ∧ sft f i ≤ 4 * hi := by
  unfold sft
  have h1 := h i
  have h2 := h (i - 1)
  have h3 := h (i + 1)
  split <;> omega
theorem row_step (f : Nat → Int) (y i : Nat) : upTo (fun j => if j / 8 < y then rowsF f j else f j) (8 * y) 1 8 i = if i / 8 < y + 1 then rowsF f i else f i := by
  unfold upTo
  by_cases h : i / 8 = y
  · rw [if_pos (by omega), if_pos (by omega)]
    unfold rowsF
    subst h
    have e : (i - 8 * (i / 8)) / 1 = i % 8 := by omega
    rw [e]
    unfold sft
    by_cases c : i % 8 = 0 ∨ i % 8 = 7
    · rw [if_pos c, if_pos c]
      simp only [Nat.mul_one]
      rw [if_neg (by omega)]
    · rw [if_neg c, if_neg c]
      simp only [Nat.mul_one]
      rw [if_neg (by omega), if_neg (by omega), if_neg (by omega)]
  · rw [if_neg (by omega)]
    by_cases g : i / 8 < y
    · simp only [if_pos g, if_pos (show i / 8 < y + 1 by omega)]
    · simp only [if_neg g, if_neg (show ¬ i / 8 < y + 1 by omega)]
theorem col_step (f : Nat → Int) (x i : Nat) (hx : x < 8) (hi : i < 64) : upTo (fun j => if j % 8 < x then colsF f j else f j) x 8 8 i = if i % 8 < x + 1 then colsF f i else f i := by
  unfold upTo
  by_cases h : i % 8 = x
  · rw [if_pos (by omega), if_pos (by omega)]
    unfold colsF
    subst h
    have e : (i - i % 8) / 8 = i / 8 := by omega
    rw [e]
    unfold sft
    have e1 : ∀ y, (i % 8 + y * 8) % 8 = i % 8 := by intro y; omega
    simp only [e1, Nat.lt_irrefl, if_false]
    have e2 : ∀ y, i % 8 + y * 8 = 8 * y + i % 8 := by intro y; omega
    simp only [e2]
  · rw [if_neg (by omega)]
    by_cases g : i % 8 < x
    · simp only [if_pos g, if_pos (show i % 8 < x + 1 by omega)]
    · simp only [if_neg g, if_neg (show ¬ i % 8 < x + 1 by omega)]
theorem rowsF_bd (f : Nat → Int) (h : ∀ i, 0 ≤ f i ∧ f i ≤ 255) (i : Nat) : 0 ≤ rowsF f i ∧ rowsF f i ≤ 1020 := by
  have := sft_lohi (fun x => f (8 * (i / 8) + x)) 0 255 (fun x => h _) (i % 8)
  unfold rowsF; omega
theorem colsF_bd (f : Nat → Int) (h : ∀ i, 0 ≤ f i ∧ f i ≤ 255) (i : Nat) : 0 ≤ colsF (rowsF f) i ∧ colsF (rowsF f) i ≤ 4080 := by
  have := sft_lohi (fun y => rowsF f (8 * y + i % 8)) 0 1020 (fun y => rowsF_bd f h _) (i / 8)
  unfold colsF; omega
theorem filt_bd (f : Nat → Int) (h : ∀ i, 0 ≤ f i ∧ f i ≤ 255) (i : Nat) : 0 ≤ filt f i ∧ filt f i ≤ 255 := by
  have := colsF_bd f h i
  unfold filt; omega
end Lo
end Go.Proofs.YtbmglemjfodfhaaGreat
