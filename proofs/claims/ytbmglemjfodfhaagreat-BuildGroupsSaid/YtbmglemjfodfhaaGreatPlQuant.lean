/- What levels are worth, and which level is nearest: plain numbers, no program in sight. -/
namespace Go.Proofs.YtbmglemjfodfhaaGreat
namespace Qu
def raw (l q : Int) : Int := q * (2 * l + 1) - (1 - q % 2)
def okB (l q : Int) : Bool := decide (-127 ≤ l ∧ l ≤ 127 ∧ 1 ≤ q ∧ q ≤ 31)
def val (l q : Int) : Int := if 0 < l then min (raw l q) 2047 else if l < 0 then max (-(raw (-l) q)) (-2048) else 0
def vV (l q : Int) : Int := if okB l q then val l q else 0
def vE (l q : Int) : Int := if okB l q then 0 else 3
def dcV (c : Int) : Int := if c < 0 ∨ 255 < c then 0 else if c = 0 ∨ c = 128 then 0 else if c = 255 then 1024 else 8 * c
def dcE (c : Int) : Int := if c < 0 ∨ 255 < c then 3 else if c = 0 ∨ c = 128 then 10 else 0
theorem raw_bd (l q : Int) (h1 : 0 ≤ l) (h2 : l ≤ 127) (h3 : 1 ≤ q) (h4 : q ≤ 31) : 0 ≤ q * (2 * l + 1) ∧ q * (2 * l + 1) ≤ 7905 := by
  constructor
  · exact Int.mul_nonneg (by omega) (by omega)
  · calc q * (2 * l + 1) ≤ 31 * (2 * l + 1) := Int.mul_le_mul_of_nonneg_right h4 (by omega)
      _ ≤ 7905 := by omega
theorem raw_lo (l q : Int) (h1 : 0 ≤ l) (h3 : 1 ≤ q) : 2 * l + q ≤ q * (2 * l + 1) := by
  have h : 0 ≤ (q - 1) * (2 * l) := Int.mul_nonneg (by omega) (by omega)
  have e : (q - 1) * (2 * l) = q * (2 * l + 1) - (2 * l + q) := by rw [Int.sub_mul, Int.mul_add, Int.mul_one, Int.one_mul]; omega
  omega
theorem raw_pos (l q : Int) (h1 : 0 < l) (h3 : 1 ≤ q) : 2 < raw l q := by
  have := raw_lo l q (by omega) h3
  unfold raw; omega
theorem raw_bd2 (l q : Int) (h1 : 0 ≤ l) (h2 : l ≤ 127) (h3 : 1 ≤ q) (h4 : q ≤ 31) : 0 ≤ raw l q ∧ raw l q ≤ 7905 := by
  have := raw_lo l q h1 h3
  have := raw_bd l q h1 h2 h3 h4
  unfold raw; omega
theorem val_pos (l q : Int) (h : 0 < l) : val l q = min (raw l q) 2047 := by simp [val, h]
theorem val_neg (l q : Int) (h : 0 < l) : val (-l) q = max (-(raw l q)) (-2048) := by
  unfold val
  rw [if_neg (by omega), if_pos (by omega), Int.neg_neg]
theorem val_bd (l q : Int) (h3 : 1 ≤ q) : -2048 ≤ val l q ∧ val l q ≤ 2047 := by
  unfold val
  split
  · have := raw_pos l q (by omega) h3; omega
  · split
    · have := raw_pos (-l) q (by omega) h3; omega
    · omega
def far (t q l : Int) : Int := max (val l q - t) (t - val l q)
def step (t q b l : Int) : Int := if far t q l < far t q b then l else b
def best (t q : Int) : Nat → Int
  | 0 => 0
  | m + 1 => step t q (step t q (best t q m) (m + 1)) (-((m : Int) + 1))
def bestR (t q : Int) : Nat → Int
  | 0 => 0
  | m + 1 => step t q (step t q (bestR t q m) (-((m : Int) + 1))) (m + 1)
def nearOkB (t q : Int) : Bool := decide (-2048 ≤ t ∧ t ≤ 2047 ∧ 1 ≤ q ∧ q ≤ 31)
def nV (t q : Int) : Int := if nearOkB t q then best t q 127 else 0
def nE (t q : Int) : Int := if nearOkB t q then 0 else 3
end Qu
end Go.Proofs.YtbmglemjfodfhaaGreat
