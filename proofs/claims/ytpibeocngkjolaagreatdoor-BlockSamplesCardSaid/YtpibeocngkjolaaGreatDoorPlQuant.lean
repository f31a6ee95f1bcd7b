/- What levels are worth, and which level is nearest: plain numbers, no program in sight. -/
namespace Go.Proofs.YtpibeocngkjolaaGreatDoor
namespace Qu

/-- what a level above 0 is worth ahead of the cut. -/
def raw (l q : Int) : Int := q * (2 * l + 1) - (1 - q % 2)
/-- may the numbers be a level and a quantiser? -/
def okB (l q : Int) : Bool := decide (-127 ≤ l ∧ l ≤ 127 ∧ 1 ≤ q ∧ q ≤ 31)
/-- what a level is worth. -/
def val (l q : Int) : Int := if 0 < l then min (raw l q) 2047 else if l < 0 then max (-(raw (-l) q)) (-2048) else 0
def vV (l q : Int) : Int := if okB l q then val l q else 0
def vE (l q : Int) : Int := if okB l q then 0 else 3
def dcV (c : Int) : Int := if c < 0 ∨ 255 < c then 0 else if c = 0 ∨ c = 128 then 0 else if c = 255 then 1024 else 8 * c
def dcE (c : Int) : Int := if c < 0 ∨ 255 < c then 3 else if c = 0 ∨ c = 128 then 10 else 0

theorem raw_bd (l q : Int) (h1 : 0 ≤ l) (h2 : l ≤ 127) (h3 : 1 ≤ q) (h4 : q ≤ 31) : 0 ≤ q * (2 * l + 1) ∧ q * (2 * l + 1) ≤ 7905 := by
  constructor
  · exact Int.mul_nonneg (by omega) (by omega)
  · calc q * (2 * l + 1) ≤ 31 * (2 * l + 1) := Int.mul_le_mul_of_nonneg_right h4 (by omega)
      _ ≤ 7905 := by omega
theorem raw_lo (l q : Int) (h1 : 0 ≤ l) (h3 : 1 ≤ q) : 2 * l + q ≤ q * (2 * l + 1) := by
  have h : 0 ≤ (q - 1) * (2 * l) := Int.mul_nonneg (by omega) (by omega)
  have e : (q - 1) * (2 * l) = q * (2 * l + 1) - (2 * l + q) := by rw [Int.sub_mul, Int.mul_add, Int.mul_one, Int.one_mul]; omega
  omega
theorem raw_pos (l q : Int) (h1 : 0 < l) (h3 : 1 ≤ q) : 2 < raw l q := by
  have := raw_lo l q (by omega) h3
  unfold raw; omega
theorem raw_bd2 (l q : Int) (h1 : 0 ≤ l) (h2 : l ≤ 127) (h3 : 1 ≤ q) (h4 : q ≤ 31) : 0 ≤ raw l q ∧ raw l q ≤ 7905 := by
  have := raw_lo l q h1 h3
  have := raw_bd l q h1 h2 h3 h4
  unfold raw; omega
theorem val_zero (q : Int) : val 0 q = 0 := by simp [val]
theorem val_pos (l q : Int) (h : 0 < l) : val l q = min (raw l q) 2047 := by simp [val, h]
theorem val_neg (l q : Int) (h : 0 < l) : val (-l) q = max (-(raw l q)) (-2048) := by
  unfold val
  rw [if_neg (by omega), if_pos (by omega), Int.neg_neg]
theorem val_bd (l q : Int) (h3 : 1 ≤ q) : -2048 ≤ val l q ∧ val l q ≤ 2047 := by
  unfold val
  split
  · have := raw_pos l q (by omega) h3; omega
  · split
    · have := raw_pos (-l) q (by omega) h3; omega
    · omega

/-- how far a level's value is from a number. -/
def far (t q l : Int) : Int := max (val l q - t) (t - val l q)
def step (t q b l : Int) : Int := if far t q l < far t q b then l else b
/-- the best one of the levels up to m, a level ahead of its other side's. -/
def best (t q : Int) : Nat → Int
  | 0 => 0
  | m + 1 => step t q (step t q (best t q m) (m + 1)) (-((m : Int) + 1))
/-- the other side's ahead of the level. -/
def bestR (t q : Int) : Nat → Int
  | 0 => 0
  | m + 1 => step t q (step t q (bestR t q m) (-((m : Int) + 1))) (m + 1)

theorem best_far (t q : Int) (m : Nat) : far t q (best t q m) ≤ far t q 0 := by
  induction m with
  | zero => exact Int.le_refl _
  | succ m ih =>
    show far t q (step t q (step t q (best t q m) (m + 1)) (-((m : Int) + 1))) ≤ far t q 0
    unfold step
    split
    · split at * <;> omega
    · split <;> omega

theorem far_split (t q l : Int) (h : 0 < l) (hq : 1 ≤ q) (h1 : far t q l < far t q 0) (_h2 : far t q (-l) < far t q 0) : far t q l ≠ far t q (-l) := by
  have := raw_pos l q h hq
  unfold far at *
  rw [val_pos l q h] at *
  rw [val_neg l q h] at *
  rw [val_zero] at *
  omega

theorem best_eq (t q : Int) (hq : 1 ≤ q) (m : Nat) : best t q m = bestR t q m := by
  induction m with
  | zero => rfl
  | succ m ih =>
    show step t q (step t q (best t q m) (m + 1)) (-((m : Int) + 1)) = step t q (step t q (bestR t q m) (-((m : Int) + 1))) (m + 1)
    rw [← ih]
    have hb := best_far t q m
    have hs := far_split t q ((m : Int) + 1) (by omega) hq
    generalize best t q m = b at *
    generalize (m : Int) + 1 = l at *
    unfold step
    by_cases h1 : far t q l < far t q b <;> by_cases h2 : far t q (-l) < far t q b
    · have h3 := hs (by omega) (by omega)
      by_cases h4 : far t q (-l) < far t q l
      · have h5 : ¬ far t q l < far t q (-l) := by omega
        simp [h1, h2, h4, h5]
      · have h5 : far t q l < far t q (-l) := by omega
        simp [h1, h2, h4, h5]
    · have h4 : ¬ far t q (-l) < far t q l := by omega
      simp [h1, h2, h4]
    · have h4 : ¬ far t q l < far t q (-l) := by omega
      simp [h1, h2, h4]
    · simp [h1, h2]

def nearOkB (t q : Int) : Bool := decide (-2048 ≤ t ∧ t ≤ 2047 ∧ 1 ≤ q ∧ q ≤ 31)
def nV (t q : Int) : Int := if nearOkB t q then best t q 127 else 0
def nE (t q : Int) : Int := if nearOkB t q then 0 else 3

theorem best_bd (t q : Int) (m : Nat) : -(m : Int) ≤ best t q m ∧ best t q m ≤ m := by
  induction m with
  | zero => simp [best]
  | succ m ih =>
    show -((m + 1 : Nat) : Int) ≤ step t q (step t q (best t q m) (m + 1)) (-((m : Int) + 1)) ∧ step t q (step t q (best t q m) (m + 1)) (-((m : Int) + 1)) ≤ ((m + 1 : Nat) : Int)
    unfold step
    split
    · omega
    · split <;> omega

/-- no level's value is nearer; and of those that are as near it is the one nearest to 0. -/
theorem best_near (t q : Int) (m : Nat) (l : Int) (h1 : -(m : Int) ≤ l) (h2 : l ≤ m) :
    far t q (best t q m) < far t q l ∨ (far t q (best t q m) = far t q l ∧ max (best t q m) (-(best t q m)) ≤ max l (-l)) := by
  induction m with
  | zero =>
    have : l = 0 := by omega
    subst this
    right
    exact ⟨rfl, Int.le_refl _⟩
  | succ m ih =>
    have hb := best_bd t q m
    have e : best t q (m + 1) = step t q (step t q (best t q m) (m + 1)) (-((m : Int) + 1)) := rfl
    rw [e]
    generalize best t q m = b at *
    by_cases hl : -(m : Int) ≤ l ∧ l ≤ m
    · have := ih hl.1 hl.2
      unfold step
      split
      · split at * <;> omega
      · split <;> omega
    · have hl' : l = (m : Int) + 1 ∨ l = -((m : Int) + 1) := by omega
      rcases hl' with rfl | rfl
      · unfold step
        split
        · split at * <;> omega
        · split <;> omega
      · unfold step
        split
        · split at * <;> omega
        · split <;> omega

theorem far_val (q l l' : Int) : far (val l q) q l' = 0 ↔ val l' q = val l q := by unfold far; omega
theorem far_nonneg (t q l : Int) : 0 ≤ far t q l := by unfold far; omega
/-- the nearest level of a level's value has that value. -/
theorem best_val (q l : Int) (h1 : -127 ≤ l) (h2 : l ≤ 127) : val (best (val l q) q 127) q = val l q := by
  rw [← far_val]
  have h := best_near (val l q) q 127 l (by omega) (by omega)
  have h0 : far (val l q) q l = 0 := (far_val q l l).2 rfl
  have := far_nonneg (val l q) q (best (val l q) q 127)
  omega
end Qu
end Go.Proofs.YtpibeocngkjolaaGreatDoor
