/- The samples of all blocks of all macroblocks of all groups: each sample of a picture once. -/
import Derived.Test.YtkeempljogjceaaPlc
namespace Go.Proofs.Ytkeempljogjceaa
namespace Wh
open Fr

def num (j m k i : Nat) : Nat := ((j * 33 + m) * 6 + k) * 64 + i
theorem dg {b q r : Nat} (h : r < b) : (q * b + r) / b = q ∧ (q * b + r) % b = r := by
  constructor
  · rw [Nat.mul_comm, Nat.mul_add_div (by omega), Nat.div_eq_of_lt h, Nat.add_zero]
  · rw [Nat.mul_comm, Nat.mul_add_mod, Nat.mod_eq_of_lt h]
theorem num_inj {j m k i j' m' k' i' : Nat} (h1 : m < 33) (h2 : k < 6) (h3 : i < 64) (h1' : m' < 33) (h2' : k' < 6) (h3' : i' < 64) (h : num j m k i = num j' m' k' i') : j = j' ∧ m = m' ∧ k = k' ∧ i = i' := by
  unfold num at h
  have a := dg (q := (j * 33 + m) * 6 + k) h3
  rw [h] at a
  have a' := dg (q := (j' * 33 + m') * 6 + k') h3'
  have e4 : i = i' := a.2.symm.trans a'.2
  have e := a.1.symm.trans a'.1
  have b := dg (q := j * 33 + m) h2
  rw [e] at b
  have b' := dg (q := j' * 33 + m') h2'
  have e3 : k = k' := b.2.symm.trans b'.2
  have e2 := b.1.symm.trans b'.1
  have c := dg (q := j) h1
  rw [e2] at c
  have c' := dg (q := j') h1'
  exact ⟨c.1.symm.trans c'.1, c.2.symm.trans c'.2, e3, e4⟩
theorem mixY (u v s e : Nat) (h1 : v < 3) (h2 : s < 2) (h3 : e < 8) : (u * 48 + v * 16 + s * 8 + e) / 48 = u ∧ (u * 48 + v * 16 + s * 8 + e) % 48 / 16 = v ∧ (u * 48 + v * 16 + s * 8 + e) % 16 / 8 = s ∧ (u * 48 + v * 16 + s * 8 + e) % 8 = e := by
  refine ⟨?_, ?_, ?_, ?_⟩ <;> omega
theorem mixX (u v s e : Nat) (h1 : v < 11) (h2 : s < 2) (h3 : e < 8) : (u * 176 + v * 16 + s * 8 + e) / 176 = u ∧ (u * 176 + v * 16 + s * 8 + e) % 176 / 16 = v ∧ (u * 176 + v * 16 + s * 8 + e) % 16 / 8 = s ∧ (u * 176 + v * 16 + s * 8 + e) % 8 = e := by
  refine ⟨?_, ?_, ?_, ?_⟩ <;> omega
theorem mixy (u v e : Nat) (h1 : v < 3) (h3 : e < 8) : (u * 24 + v * 8 + e) / 24 = u ∧ (u * 24 + v * 8 + e) % 24 / 8 = v ∧ (u * 24 + v * 8 + e) % 8 = e := by
  refine ⟨?_, ?_, ?_⟩ <;> omega
theorem mixx (u v e : Nat) (h1 : v < 11) (h3 : e < 8) : (u * 88 + v * 8 + e) / 88 = u ∧ (u * 88 + v * 8 + e) % 88 / 8 = v ∧ (u * 88 + v * 8 + e) % 8 = e := by
  refine ⟨?_, ?_, ?_⟩ <;> omega
theorem ofY (Y : Nat) : ∃ u v s e, v < 3 ∧ s < 2 ∧ e < 8 ∧ Y = u * 48 + v * 16 + s * 8 + e := ⟨Y / 48, Y % 48 / 16, Y % 16 / 8, Y % 8, by omega, by omega, by omega, by omega⟩
theorem ofX (X : Nat) : ∃ u v s e, v < 11 ∧ s < 2 ∧ e < 8 ∧ X = u * 176 + v * 16 + s * 8 + e := ⟨X / 176, X % 176 / 16, X % 16 / 8, X % 8, by omega, by omega, by omega, by omega⟩
theorem ofy (Y : Nat) : ∃ u v e, v < 3 ∧ e < 8 ∧ Y = u * 24 + v * 8 + e := ⟨Y / 24, Y % 24 / 8, Y % 8, by omega, by omega, by omega⟩
theorem ofx (X : Nat) : ∃ u v e, v < 11 ∧ e < 8 ∧ X = u * 88 + v * 8 + e := ⟨X / 88, X % 88 / 8, X % 8, by omega, by omega, by omega⟩
theorem split (b x : Nat) (h : 0 < b) : ∃ q r, r < b ∧ x = q * b + r := ⟨x / b, x % b, Nat.mod_lt _ h, by rw [Nat.mul_comm]; exact (Nat.div_add_mod x b).symm⟩

def lu0 (j m k i : Nat) : Nat := (j / 1 * 48 + m / 11 * 16 + k / 2 * 8 + i / 8) * 176 + (j % 1 * 176 + m % 11 * 16 + k % 2 * 8 + i % 8)
def ch0 (j m k i : Nat) : Nat := 25344 + ((k - 4) * 6336 + ((j / 1 * 24 + m / 11 * 8 + i / 8) * 88 + (j % 1 * 88 + m % 11 * 8 + i % 8)))
def ix0 (j m k i : Nat) : Nat := if k < 4 then lu0 j m k i else ch0 j m k i
def pj0 (p : Nat) : Nat := if p < 25344 then p / 176 / 48 * 1 + p % 176 / 176 else (p - 25344) % 6336 / 88 / 24 * 1 + (p - 25344) % 6336 % 88 / 88
def pm0 (p : Nat) : Nat := if p < 25344 then p / 176 % 48 / 16 * 11 + p % 176 % 176 / 16 else (p - 25344) % 6336 / 88 % 24 / 8 * 11 + (p - 25344) % 6336 % 88 % 88 / 8
def pk0 (p : Nat) : Nat := if p < 25344 then p / 176 % 16 / 8 * 2 + p % 176 % 16 / 8 else (p - 25344) / 6336 + 4
def pi0 (p : Nat) : Nat := if p < 25344 then p / 176 % 8 * 8 + p % 176 % 8 else (p - 25344) % 6336 / 88 % 8 * 8 + (p - 25344) % 6336 % 88 % 8
def rk0 (p : Nat) : Nat := num (pj0 p) (pm0 p) (pk0 p) (pi0 p)
theorem lu_of0 (u u' v v' s s' e f : Nat) (hu' : u' < 1) (hv' : v' < 11) (hs' : s' < 2) (hf : f < 8) : lu0 (u * 1 + u') (v * 11 + v') (s * 2 + s') (e * 8 + f) = (u * 48 + v * 16 + s * 8 + e) * 176 + (u' * 176 + v' * 16 + s' * 8 + f) := by
  unfold lu0
  rw [(dg hu').1, (dg hu').2, (dg hv').1, (dg hv').2, (dg hs').1, (dg hs').2, (dg hf).1, (dg hf).2]
theorem ch_of0 (u u' v v' c e f : Nat) (hu' : u' < 1) (hv' : v' < 11) (hf : f < 8) : ch0 (u * 1 + u') (v * 11 + v') (c + 4) (e * 8 + f) = 25344 + (c * 6336 + ((u * 24 + v * 8 + e) * 88 + (u' * 88 + v' * 8 + f))) := by
  unfold ch0
  rw [(dg hu').1, (dg hu').2, (dg hv').1, (dg hv').2, (dg hf).1, (dg hf).2, Nat.add_sub_cancel]
theorem lu_back0 (u u' v v' s s' e f : Nat) (hu : u < 3) (hu' : u' < 1) (hv : v < 3) (hv' : v' < 11) (hs : s < 2) (hs' : s' < 2) (he : e < 8) (hf : f < 8) (p : Nat) (hp : p = (u * 48 + v * 16 + s * 8 + e) * 176 + (u' * 176 + v' * 16 + s' * 8 + f)) :
    p < 25344 ∧ pj0 p = u * 1 + u' ∧ pm0 p = v * 11 + v' ∧ pk0 p = s * 2 + s' ∧ pi0 p = e * 8 + f := by
  have bX : u' * 176 + v' * 16 + s' * 8 + f < 176 := by omega
  have bY : u * 48 + v * 16 + s * 8 + e < 144 := by omega
  have hA : p < 25344 := by omega
  have e1 := dg (q := u * 48 + v * 16 + s * 8 + e) bX
  rw [← hp] at e1
  obtain ⟨y1, y2, y3, y4⟩ := mixY u v s e hv hs he
  obtain ⟨x1, x2, x3, x4⟩ := mixX u' v' s' f hv' hs' hf
  unfold pj0 pm0 pk0 pi0
  rw [if_pos hA, if_pos hA, if_pos hA, if_pos hA, e1.1, e1.2, y1, y2, y3, y4, x1, x2, x3, x4]
  exact ⟨hA, rfl, rfl, rfl, rfl⟩
theorem ch_back0 (u u' v v' c e f : Nat) (hu : u < 3) (hu' : u' < 1) (hv : v < 3) (hv' : v' < 11) (hc : c < 2) (he : e < 8) (hf : f < 8) (p : Nat) (hp : p = 25344 + (c * 6336 + ((u * 24 + v * 8 + e) * 88 + (u' * 88 + v' * 8 + f)))) :
    ¬ p < 25344 ∧ p < 38016 ∧ pj0 p = u * 1 + u' ∧ pm0 p = v * 11 + v' ∧ pk0 p = c + 4 ∧ pi0 p = e * 8 + f := by
  have bX : u' * 88 + v' * 8 + f < 88 := by omega
  have bY : u * 24 + v * 8 + e < 72 := by omega
  have bq : (u * 24 + v * 8 + e) * 88 + (u' * 88 + v' * 8 + f) < 6336 := by omega
  have hA : ¬ p < 25344 := by omega
  have hp2 : p - 25344 = c * 6336 + ((u * 24 + v * 8 + e) * 88 + (u' * 88 + v' * 8 + f)) := by rw [hp, Nat.add_sub_cancel_left]
  have hB : p < 38016 := by omega
  have e0 := dg (q := c) bq
  rw [← hp2] at e0
  have e1 := dg (q := u * 24 + v * 8 + e) bX
  obtain ⟨y1, y2, y4⟩ := mixy u v e hv he
  obtain ⟨x1, x2, x4⟩ := mixx u' v' f hv' hf
  unfold pj0 pm0 pk0 pi0
  rw [if_neg hA, if_neg hA, if_neg hA, if_neg hA, e0.1, e0.2, e1.1, e1.2, y1, y2, y4, x1, x2, x4]
  exact ⟨hA, hB, rfl, rfl, rfl, rfl⟩
theorem ix_parts0 {j m k i : Nat} (hj : j < 3) (hm : m < 33) (hk : k < 6) (hi : i < 64) : ix0 j m k i < 38016 ∧ pj0 (ix0 j m k i) = j ∧ pm0 (ix0 j m k i) = m ∧ pk0 (ix0 j m k i) = k ∧ pi0 (ix0 j m k i) = i := by
  obtain ⟨u, u', hu', rfl⟩ := split 1 j (by decide)
  obtain ⟨v, v', hv', rfl⟩ := split 11 m (by decide)
  obtain ⟨e, f, hf, rfl⟩ := split 8 i (by decide)
  have hu : u < 3 := by omega
  have hv : v < 3 := by omega
  have he : e < 8 := by omega
  unfold ix0
  by_cases h : k < 4
  · obtain ⟨s, s', hs', rfl⟩ := split 2 k (by decide)
    have hs : s < 2 := by omega
    rw [if_pos h, lu_of0 u u' v v' s s' e f hu' hv' hs' hf]
    obtain ⟨h1, h2⟩ := lu_back0 u u' v v' s s' e f hu hu' hv hv' hs hs' he hf _ rfl
    exact ⟨Nat.lt_trans h1 (by decide), h2⟩
  · obtain ⟨c, rfl⟩ : ∃ c, k = c + 4 := ⟨k - 4, by omega⟩
    have hc : c < 2 := by omega
    rw [if_neg h, ch_of0 u u' v v' c e f hu' hv' hf]
    exact (ch_back0 u u' v v' c e f hu hu' hv hv' hc he hf _ rfl).2
theorem parts_ok0 {p : Nat} (hp : p < 38016) : (pj0 p < 3 ∧ pm0 p < 33 ∧ pk0 p < 6 ∧ pi0 p < 64) ∧ ix0 (pj0 p) (pm0 p) (pk0 p) (pi0 p) = p := by
  by_cases h : p < 25344
  · obtain ⟨Y, X, hX, he⟩ := split 176 p (by decide)
    have hY : Y < 144 := by omega
    obtain ⟨u, v, s, e, hv, hs, hee, rfl⟩ := ofY Y
    obtain ⟨u', v', s', f, hv', hs', hf, rfl⟩ := ofX X
    have hu : u < 3 := by omega
    have hu' : u' < 1 := by omega
    obtain ⟨_, h2, h3, h4, h5⟩ := lu_back0 u u' v v' s s' e f hu hu' hv hv' hs hs' hee hf p he
    rw [h2, h3, h4, h5]
    refine ⟨⟨by omega, by omega, by omega, by omega⟩, ?_⟩
    unfold ix0
    rw [if_pos (by omega), lu_of0 u u' v v' s s' e f hu' hv' hs' hf]
    exact he.symm
  · obtain ⟨c, r, hr, he⟩ := split 6336 (p - 25344) (by decide)
    have hc : c < 2 := by omega
    obtain ⟨Y, X, hX, rfl⟩ := split 88 r (by decide)
    have hY : Y < 72 := by omega
    obtain ⟨u, v, e, hv, hee, rfl⟩ := ofy Y
    obtain ⟨u', v', f, hv', hf, rfl⟩ := ofx X
    have hu : u < 3 := by omega
    have hu' : u' < 1 := by omega
    have hpe : p = 25344 + (c * 6336 + ((u * 24 + v * 8 + e) * 88 + (u' * 88 + v' * 8 + f))) := by rw [← he, Nat.add_sub_cancel' (Nat.le_of_not_lt h)]
    obtain ⟨_, _, h2, h3, h4, h5⟩ := ch_back0 u u' v v' c e f hu hu' hv hv' hc hee hf p hpe
    rw [h2, h3, h4, h5]
    refine ⟨⟨by omega, by omega, by omega, by omega⟩, ?_⟩
    unfold ix0
    rw [if_neg (by omega), ch_of0 u u' v v' c e f hu' hv' hf]
    exact hpe.symm
theorem rk_ix0 {j m k i : Nat} (hj : j < 3) (hm : m < 33) (hk : k < 6) (hi : i < 64) : rk0 (ix0 j m k i) = num j m k i := by
  obtain ⟨_, h1, h2, h3, h4⟩ := ix_parts0 hj hm hk hi
  unfold rk0; rw [h1, h2, h3, h4]
theorem rk_eq0 {j m k i p : Nat} (hm : m < 33) (hk : k < 6) (hi : i < 64) (hp : p < 38016) (h : rk0 p = num j m k i) : p = ix0 j m k i := by
  obtain ⟨⟨_, h2, h3, h4⟩, h5⟩ := parts_ok0 hp
  obtain ⟨e1, e2, e3, e4⟩ := num_inj h2 h3 h4 hm hk hi h
  rw [e1, e2, e3, e4] at h5; exact h5.symm
theorem rk_lt0 {p : Nat} (hp : p < 38016) : rk0 p < num 3 0 0 0 := by
  obtain ⟨⟨h1, h2, h3, h4⟩, _⟩ := parts_ok0 hp
  unfold rk0
  generalize pj0 p = a at *
  generalize pm0 p = b at *
  generalize pk0 p = c at *
  generalize pi0 p = d at *
  unfold num; omega
/-- a step: just one more is marked. -/
theorem rk_step0 {j m k i p : Nat} (hj : j < 3) (hm : m < 33) (hk : k < 6) (hi : i < 64) (hp : p < 38016) : decide (rk0 p < num j m k (i + 1)) = (decide (p = ix0 j m k i) || decide (rk0 p < num j m k i)) := by
  have e : num j m k (i + 1) = num j m k i + 1 := rfl
  rw [e]
  by_cases h : p = ix0 j m k i
  · have := rk_ix0 hj hm hk hi
    rw [← h] at this
    rw [this, decide_eq_true h, Bool.true_or]
    exact decide_eq_true (Nat.lt_succ_self _)
  · have : rk0 p ≠ num j m k i := fun e => h (rk_eq0 hm hk hi hp e)
    rw [decide_eq_false h, Bool.false_or, decide_eq_decide]; omega

def lu1 (j m k i : Nat) : Nat := (j / 2 * 48 + m / 11 * 16 + k / 2 * 8 + i / 8) * 352 + (j % 2 * 176 + m % 11 * 16 + k % 2 * 8 + i % 8)
def ch1 (j m k i : Nat) : Nat := 101376 + ((k - 4) * 25344 + ((j / 2 * 24 + m / 11 * 8 + i / 8) * 176 + (j % 2 * 88 + m % 11 * 8 + i % 8)))
def ix1 (j m k i : Nat) : Nat := if k < 4 then lu1 j m k i else ch1 j m k i
def pj1 (p : Nat) : Nat := if p < 101376 then p / 352 / 48 * 2 + p % 352 / 176 else (p - 101376) % 25344 / 176 / 24 * 2 + (p - 101376) % 25344 % 176 / 88
def pm1 (p : Nat) : Nat := if p < 101376 then p / 352 % 48 / 16 * 11 + p % 352 % 176 / 16 else (p - 101376) % 25344 / 176 % 24 / 8 * 11 + (p - 101376) % 25344 % 176 % 88 / 8
def pk1 (p : Nat) : Nat := if p < 101376 then p / 352 % 16 / 8 * 2 + p % 352 % 16 / 8 else (p - 101376) / 25344 + 4
def pi1 (p : Nat) : Nat := if p < 101376 then p / 352 % 8 * 8 + p % 352 % 8 else (p - 101376) % 25344 / 176 % 8 * 8 + (p - 101376) % 25344 % 176 % 8
def rk1 (p : Nat) : Nat := num (pj1 p) (pm1 p) (pk1 p) (pi1 p)
theorem lu_of1 (u u' v v' s s' e f : Nat) (hu' : u' < 2) (hv' : v' < 11) (hs' : s' < 2) (hf : f < 8) : lu1 (u * 2 + u') (v * 11 + v') (s * 2 + s') (e * 8 + f) = (u * 48 + v * 16 + s * 8 + e) * 352 + (u' * 176 + v' * 16 + s' * 8 + f) := by
  unfold lu1
  rw [(dg hu').1, (dg hu').2, (dg hv').1, (dg hv').2, (dg hs').1, (dg hs').2, (dg hf).1, (dg hf).2]
theorem ch_of1 (u u' v v' c e f : Nat) (hu' : u' < 2) (hv' : v' < 11) (hf : f < 8) : ch1 (u * 2 + u') (v * 11 + v') (c + 4) (e * 8 + f) = 101376 + (c * 25344 + ((u * 24 + v * 8 + e) * 176 + (u' * 88 + v' * 8 + f))) := by
  unfold ch1
  rw [(dg hu').1, (dg hu').2, (dg hv').1, (dg hv').2, (dg hf).1, (dg hf).2, Nat.add_sub_cancel]
theorem lu_back1 (u u' v v' s s' e f : Nat) (hu : u < 6) (hu' : u' < 2) (hv : v < 3) (hv' : v' < 11) (hs : s < 2) (hs' : s' < 2) (he : e < 8) (hf : f < 8) (p : Nat) (hp : p = (u * 48 + v * 16 + s * 8 + e) * 352 + (u' * 176 + v' * 16 + s' * 8 + f)) :
    p < 101376 ∧ pj1 p = u * 2 + u' ∧ pm1 p = v * 11 + v' ∧ pk1 p = s * 2 + s' ∧ pi1 p = e * 8 + f := by
  have bX : u' * 176 + v' * 16 + s' * 8 + f < 352 := by omega
  have bY : u * 48 + v * 16 + s * 8 + e < 288 := by omega
  have hA : p < 101376 := by omega
  have e1 := dg (q := u * 48 + v * 16 + s * 8 + e) bX
  rw [← hp] at e1
  obtain ⟨y1, y2, y3, y4⟩ := mixY u v s e hv hs he
  obtain ⟨x1, x2, x3, x4⟩ := mixX u' v' s' f hv' hs' hf
  unfold pj1 pm1 pk1 pi1
  rw [if_pos hA, if_pos hA, if_pos hA, if_pos hA, e1.1, e1.2, y1, y2, y3, y4, x1, x2, x3, x4]
  exact ⟨hA, rfl, rfl, rfl, rfl⟩
theorem ch_back1 (u u' v v' c e f : Nat) (hu : u < 6) (hu' : u' < 2) (hv : v < 3) (hv' : v' < 11) (hc : c < 2) (he : e < 8) (hf : f < 8) (p : Nat) (hp : p = 101376 + (c * 25344 + ((u * 24 + v * 8 + e) * 176 + (u' * 88 + v' * 8 + f)))) :
    ¬ p < 101376 ∧ p < 152064 ∧ pj1 p = u * 2 + u' ∧ pm1 p = v * 11 + v' ∧ pk1 p = c + 4 ∧ pi1 p = e * 8 + f := by
  have bX : u' * 88 + v' * 8 + f < 176 := by omega
  have bY : u * 24 + v * 8 + e < 144 := by omega
  have bq : (u * 24 + v * 8 + e) * 176 + (u' * 88 + v' * 8 + f) < 25344 := by omega
  have hA : ¬ p < 101376 := by omega
  have hp2 : p - 101376 = c * 25344 + ((u * 24 + v * 8 + e) * 176 + (u' * 88 + v' * 8 + f)) := by rw [hp, Nat.add_sub_cancel_left]
  have hB : p < 152064 := by omega
  have e0 := dg (q := c) bq
  rw [← hp2] at e0
  have e1 := dg (q := u * 24 + v * 8 + e) bX
  obtain ⟨y1, y2, y4⟩ := mixy u v e hv he
  obtain ⟨x1, x2, x4⟩ := mixx u' v' f hv' hf
  unfold pj1 pm1 pk1 pi1
  rw [if_neg hA, if_neg hA, if_neg hA, if_neg hA, e0.1, e0.2, e1.1, e1.2, y1, y2, y4, x1, x2, x4]
  exact ⟨hA, hB, rfl, rfl, rfl, rfl⟩
theorem ix_parts1 {j m k i : Nat} (hj : j < 12) (hm : m < 33) (hk : k < 6) (hi : i < 64) : ix1 j m k i < 152064 ∧ pj1 (ix1 j m k i) = j ∧ pm1 (ix1 j m k i) = m ∧ pk1 (ix1 j m k i) = k ∧ pi1 (ix1 j m k i) = i := by
  obtain ⟨u, u', hu', rfl⟩ := split 2 j (by decide)
  obtain ⟨v, v', hv', rfl⟩ := split 11 m (by decide)
  obtain ⟨e, f, hf, rfl⟩ := split 8 i (by decide)
  have hu : u < 6 := by omega
  have hv : v < 3 := by omega
  have he : e < 8 := by omega
  unfold ix1
  by_cases h : k < 4
  · obtain ⟨s, s', hs', rfl⟩ := split 2 k (by decide)
    have hs : s < 2 := by omega
    rw [if_pos h, lu_of1 u u' v v' s s' e f hu' hv' hs' hf]
    obtain ⟨h1, h2⟩ := lu_back1 u u' v v' s s' e f hu hu' hv hv' hs hs' he hf _ rfl
    exact ⟨Nat.lt_trans h1 (by decide), h2⟩
  · obtain ⟨c, rfl⟩ : ∃ c, k = c + 4 := ⟨k - 4, by omega⟩
    have hc : c < 2 := by omega
    rw [if_neg h, ch_of1 u u' v v' c e f hu' hv' hf]
    exact (ch_back1 u u' v v' c e f hu hu' hv hv' hc he hf _ rfl).2
theorem parts_ok1 {p : Nat} (hp : p < 152064) : (pj1 p < 12 ∧ pm1 p < 33 ∧ pk1 p < 6 ∧ pi1 p < 64) ∧ ix1 (pj1 p) (pm1 p) (pk1 p) (pi1 p) = p := by
  by_cases h : p < 101376
  · obtain ⟨Y, X, hX, he⟩ := split 352 p (by decide)
    have hY : Y < 288 := by omega
    obtain ⟨u, v, s, e, hv, hs, hee, rfl⟩ := ofY Y
    obtain ⟨u', v', s', f, hv', hs', hf, rfl⟩ := ofX X
    have hu : u < 6 := by omega
    have hu' : u' < 2 := by omega
    obtain ⟨_, h2, h3, h4, h5⟩ := lu_back1 u u' v v' s s' e f hu hu' hv hv' hs hs' hee hf p he
    rw [h2, h3, h4, h5]
    refine ⟨⟨by omega, by omega, by omega, by omega⟩, ?_⟩
    unfold ix1
    rw [if_pos (by omega), lu_of1 u u' v v' s s' e f hu' hv' hs' hf]
    exact he.symm
  · obtain ⟨c, r, hr, he⟩ := split 25344 (p - 101376) (by decide)
    have hc : c < 2 := by omega
    obtain ⟨Y, X, hX, rfl⟩ := split 176 r (by decide)
    have hY : Y < 144 := by omega
    obtain ⟨u, v, e, hv, hee, rfl⟩ := ofy Y
    obtain ⟨u', v', f, hv', hf, rfl⟩ := ofx X
    have hu : u < 6 := by omega
    have hu' : u' < 2 := by omega
    have hpe : p = 101376 + (c * 25344 + ((u * 24 + v * 8 + e) * 176 + (u' * 88 + v' * 8 + f))) := by rw [← he, Nat.add_sub_cancel' (Nat.le_of_not_lt h)]
    obtain ⟨_, _, h2, h3, h4, h5⟩ := ch_back1 u u' v v' c e f hu hu' hv hv' hc hee hf p hpe
    rw [h2, h3, h4, h5]
    refine ⟨⟨by omega, by omega, by omega, by omega⟩, ?_⟩
    unfold ix1
    rw [if_neg (by omega), ch_of1 u u' v v' c e f hu' hv' hf]
    exact hpe.symm
theorem rk_ix1 {j m k i : Nat} (hj : j < 12) (hm : m < 33) (hk : k < 6) (hi : i < 64) : rk1 (ix1 j m k i) = num j m k i := by
  obtain ⟨_, h1, h2, h3, h4⟩ := ix_parts1 hj hm hk hi
  unfold rk1; rw [h1, h2, h3, h4]
theorem rk_eq1 {j m k i p : Nat} (hm : m < 33) (hk : k < 6) (hi : i < 64) (hp : p < 152064) (h : rk1 p = num j m k i) : p = ix1 j m k i := by
  obtain ⟨⟨_, h2, h3, h4⟩, h5⟩ := parts_ok1 hp
  obtain ⟨e1, e2, e3, e4⟩ := num_inj h2 h3 h4 hm hk hi h
  rw [e1, e2, e3, e4] at h5; exact h5.symm
theorem rk_lt1 {p : Nat} (hp : p < 152064) : rk1 p < num 12 0 0 0 := by
  obtain ⟨⟨h1, h2, h3, h4⟩, _⟩ := parts_ok1 hp
  unfold rk1
  generalize pj1 p = a at *
  generalize pm1 p = b at *
  generalize pk1 p = c at *
  generalize pi1 p = d at *
  unfold num; omega
/-- a step: just one more is marked. -/
theorem rk_step1 {j m k i p : Nat} (hj : j < 12) (hm : m < 33) (hk : k < 6) (hi : i < 64) (hp : p < 152064) : decide (rk1 p < num j m k (i + 1)) = (decide (p = ix1 j m k i) || decide (rk1 p < num j m k i)) := by
  have e : num j m k (i + 1) = num j m k i + 1 := rfl
  rw [e]
  by_cases h : p = ix1 j m k i
  · have := rk_ix1 hj hm hk hi
    rw [← h] at this
    rw [this, decide_eq_true h, Bool.true_or]
    exact decide_eq_true (Nat.lt_succ_self _)
  · have : rk1 p ≠ num j m k i := fun e => h (rk_eq1 hm hk hi hp e)
    rw [decide_eq_false h, Bool.false_or, decide_eq_decide]; omega

theorem ing_of (n : Int) (q : Nat) (h : q < grN n) : inG n (grF n q) = true := by unfold inG; rw [decide_eq_true_eq]; exact ixF_yes rfl _ h
theorem cE_ok (n g a : Int) (hn : n = 0 ∨ n = 1) (hg : inG n g = true) (ha : 1 ≤ a ∧ a ≤ 33) : cE n g a = 0 := by unfold cE; rw [if_pos hn, if_pos hg, if_neg (by omega)]
theorem pl_row (n g a k : Int) (hn : n = 0 ∨ n = 1) (hg : inG n g = true) (ha : 1 ≤ a ∧ a ≤ 33) (hk : 1 ≤ k ∧ k ≤ 6) : Pt.pA n g a k = Pt.bA n (cX n g a) (cY n g a) k ∧ Pt.pS n g a k = Pt.bS n k ∧ Pt.pE n g a k = 0 := by
  have hE : Pt.pE n g a k = 0 := by unfold Pt.pE; rw [if_neg (by rw [cE_ok n g a hn hg ha]; decide), if_neg (by omega)]
  exact ⟨by unfold Pt.pA; rw [if_pos hE], by unfold Pt.pS; rw [if_pos hE], hE⟩
theorem ix_pl0 (j a k i : Nat) (hj : j < 3) (ha : 1 ≤ a ∧ a ≤ 33) (hk : 1 ≤ k ∧ k ≤ 6) : (ix0 j (a - 1) (k - 1) i : Int) = Pt.bA 0 (cX 0 (grF 0 j) a) (cY 0 (grF 0 j) a) k + (i : Int) / 8 * Pt.bS 0 k + (i : Int) % 8 := by
  have hc := cE_ok 0 (grF 0 j) a (by decide) (ing_of 0 j hj) (by omega)
  have eX : cX 0 (grF 0 j) a = ((a : Int) - 1) % 11 * 16 := by
    unfold cX; rw [if_pos hc, if_neg (by decide)]; omega
  have eY : cY 0 (grF 0 j) a = ((a : Int) - 1) / 11 * 16 + (j : Int) * 48 := by
    unfold cY; rw [if_pos hc]; unfold grF; omega
  rw [eX, eY]
  unfold Pt.bA Pt.bS
  rw [show wV 0 = 176 from rfl, show hV 0 = 144 from rfl]
  rcases (by omega : k = 1 ∨ k = 2 ∨ k = 3 ∨ k = 4 ∨ k = 5 ∨ k = 6) with rfl | rfl | rfl | rfl | rfl | rfl
  · rw [if_pos (by decide), if_pos (by decide)]; show ((lu0 j (a - 1) 0 i : Nat) : Int) = _; unfold lu0; omega
  · rw [if_pos (by decide), if_pos (by decide)]; show ((lu0 j (a - 1) 1 i : Nat) : Int) = _; unfold lu0; omega
  · rw [if_pos (by decide), if_pos (by decide)]; show ((lu0 j (a - 1) 2 i : Nat) : Int) = _; unfold lu0; omega
  · rw [if_pos (by decide), if_pos (by decide)]; show ((lu0 j (a - 1) 3 i : Nat) : Int) = _; unfold lu0; omega
  · rw [if_neg (by decide), if_neg (by decide)]; show ((ch0 j (a - 1) 4 i : Nat) : Int) = _; unfold ch0; omega
  · rw [if_neg (by decide), if_neg (by decide)]; show ((ch0 j (a - 1) 5 i : Nat) : Int) = _; unfold ch0; omega
theorem ix_pl1 (j a k i : Nat) (hj : j < 12) (ha : 1 ≤ a ∧ a ≤ 33) (hk : 1 ≤ k ∧ k ≤ 6) : (ix1 j (a - 1) (k - 1) i : Int) = Pt.bA 1 (cX 1 (grF 1 j) a) (cY 1 (grF 1 j) a) k + (i : Int) / 8 * Pt.bS 1 k + (i : Int) % 8 := by
  have hc := cE_ok 1 (grF 1 j) a (by decide) (ing_of 1 j hj) (by omega)
  have eX : cX 1 (grF 1 j) a = ((a : Int) - 1) % 11 * 16 + (j : Int) % 2 * 176 := by
    unfold cX; rw [if_pos hc, if_pos rfl]; unfold grF; omega
  have eY : cY 1 (grF 1 j) a = ((a : Int) - 1) / 11 * 16 + (j : Int) / 2 * 48 := by
    unfold cY; rw [if_pos hc]; unfold grF; omega
  rw [eX, eY]
  unfold Pt.bA Pt.bS
  rw [show wV 1 = 352 from rfl, show hV 1 = 288 from rfl]
  rcases (by omega : k = 1 ∨ k = 2 ∨ k = 3 ∨ k = 4 ∨ k = 5 ∨ k = 6) with rfl | rfl | rfl | rfl | rfl | rfl
  · rw [if_pos (by decide), if_pos (by decide)]; show ((lu1 j (a - 1) 0 i : Nat) : Int) = _; unfold lu1; omega
  · rw [if_pos (by decide), if_pos (by decide)]; show ((lu1 j (a - 1) 1 i : Nat) : Int) = _; unfold lu1; omega
  · rw [if_pos (by decide), if_pos (by decide)]; show ((lu1 j (a - 1) 2 i : Nat) : Int) = _; unfold lu1; omega
  · rw [if_pos (by decide), if_pos (by decide)]; show ((lu1 j (a - 1) 3 i : Nat) : Int) = _; unfold lu1; omega
  · rw [if_neg (by decide), if_neg (by decide)]; show ((ch1 j (a - 1) 4 i : Nat) : Int) = _; unfold ch1; omega
  · rw [if_neg (by decide), if_neg (by decide)]; show ((ch1 j (a - 1) 5 i : Nat) : Int) = _; unfold ch1; omega
end Wh
end Go.Proofs.Ytkeempljogjceaa
