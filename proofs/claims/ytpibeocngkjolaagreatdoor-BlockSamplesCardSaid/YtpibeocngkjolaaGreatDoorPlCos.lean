/- What the transform comes to: weights and sums, no program in sight. -/
namespace Go.Proofs.YtpibeocngkjolaaGreatDoor
namespace Co

def tab (k : Nat) : Int := [(2048 : Int), 2009, 1892, 1703, 1448, 1138, 784, 400, 0].getD k 0
/-- 2048 times the cosine of k sixteenths of a half turn, k below 32. -/
def cosS (k : Nat) : Int := if k > 8 then -tab (16 - k) else tab k
def cosT (k : Nat) : Int := if k > 16 then cosS (32 - k) else cosS k
def Wt (u x : Nat) : Int := if u = 0 then 1448 else cosT ((2 * x + 1) * u % 32)
def wtF (i : Nat) : Int := Wt (i / 8) (i % 8)
/-- the sum of the first n. -/
def sumN : Nat → (Nat → Int) → Int
  | 0, _ => 0
  | n + 1, g => sumN n g + g n
/-- eight numbers, summed by weights. -/
def lineF (l : Nat → Int) (x : Nat) : Int := sumN 8 fun u => Wt u x * l u
theorem tab_bd : ∀ k, k < 9 → -2048 ≤ tab k ∧ tab k ≤ 2048 := by decide
theorem Wt_bd0 : ∀ u, u < 8 → ∀ x, x < 8 → -2048 ≤ Wt u x ∧ Wt u x ≤ 2048 := by decide
theorem Wt_bd (u x : Nat) (hu : u < 8) (hx : x < 8) : -2048 ≤ Wt u x ∧ Wt u x ≤ 2048 := Wt_bd0 u hu x hx
theorem mul_bd (a b A B : Int) (ha : -A ≤ a ∧ a ≤ A) (hb : -B ≤ b ∧ b ≤ B) : -(A * B) ≤ a * b ∧ a * b ≤ A * B := by
  have h0 : 0 ≤ A := by omega
  have h1 : 0 ≤ B := by omega
  have key : (a * b).natAbs ≤ (A * B).natAbs := by
    rw [Int.natAbs_mul, Int.natAbs_mul]
    exact Nat.mul_le_mul (by omega) (by omega)
  have hAB : 0 ≤ A * B := Int.mul_nonneg h0 h1
  omega
/-- a part of a sum is within bounds. -/
theorem sumN_bd (n : Nat) (g : Nat → Int) (B : Int) (h : ∀ i, i < n → -B ≤ g i ∧ g i ≤ B) : -(n * B) ≤ sumN n g ∧ sumN n g ≤ n * B := by
  induction n with
  | zero => simp [sumN]
  | succ n ih =>
    have h1 := ih fun i hi => h i (by omega)
    have h2 := h n (by omega)
    have e : ((n + 1 : Nat) : Int) * B = n * B + B := by
      rw [Int.natCast_add, Int.add_mul]; omega
    rw [e]
    simp only [sumN]
    omega
theorem sumN_congr {n : Nat} {g h : Nat → Int} (e : ∀ i, i < n → g i = h i) : sumN n g = sumN n h := by
  induction n with
  | zero => rfl
  | succ n ih => simp only [sumN]; rw [ih fun i hi => e i (by omega), e n (by omega)]
theorem part_bd (l : Nat → Int) (B : Int) (hl : ∀ u, u < 8 → -B ≤ l u ∧ l u ≤ B) (n x : Nat) (hn : n ≤ 8) (hx : x < 8) : -(n * (2048 * B)) ≤ sumN n (fun u => Wt u x * l u) ∧ sumN n (fun u => Wt u x * l u) ≤ n * (2048 * B) :=
  sumN_bd n _ _ fun u hu => mul_bd _ _ _ _ (Wt_bd u x (by omega) hx) (hl u (by omega))
end Co
end Go.Proofs.YtpibeocngkjolaaGreatDoor
