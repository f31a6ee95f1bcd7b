/- What is fetched by 0, 0; blocks of a spot are apart; to lay twice: plain. -/
import Derived.Test.YtkeempljogjceaaPaD
import Derived.Test.YtkeempljogjceaaFet
namespace Go.Proofs.Ytkeempljogjceaa
open Go.RowKit
namespace Pa
open Fr Pt

theorem fet_adr (f : Nat → Int) (n g a : Int) (k i : Nat) (hc : cE n g a = 0) (hk : 1 ≤ k ∧ k ≤ 6) : Mo.fetF f n g a k 0 0 i = f (adr n g a k i) := by
  obtain ⟨hn, _, _, _⟩ := Pt.cE_cases n g a hc
  have hX := Pt.cX_bd n g a hc
  have hY := Pt.cY_bd n g a hc
  have hE : pE n g a k = 0 := by unfold pE; rw [if_neg (by omega), if_neg (by omega)]
  have e : Mo.pD n k + (Mo.pY n g a k 0 + (i / 8 : Nat)) * Mo.pW n k + Mo.pX n g a k 0 + (i % 8 : Nat) = pA n g a k + (i : Int) / 8 * pS n g a k + (i : Int) % 8 ∧ 0 ≤ pA n g a k + (i : Int) / 8 * pS n g a k + (i : Int) % 8 := by
    unfold pA pS
    rw [if_pos hE, if_pos hE]
    unfold Mo.pD Mo.pY Mo.pW Mo.pX bA bS
    have t : (0 : Int).tdiv 2 = 0 := rfl
    rw [t]
    have e1 : wV 0 = 176 := rfl
    have e2 : wV 1 = 352 := rfl
    have e3 : hV 0 = 144 := rfl
    have e4 : hV 1 = 288 := rfl
    rcases hn with rfl | rfl
    · rw [e1] at hX ⊢
      rw [e3] at hY ⊢
      rcases (by omega : k = 1 ∨ k = 2 ∨ k = 3 ∨ k = 4 ∨ k = 5 ∨ k = 6) with rfl | rfl | rfl | rfl | rfl | rfl <;> simp <;> omega
    · rw [e2] at hX ⊢
      rw [e4] at hY ⊢
      rcases (by omega : k = 1 ∨ k = 2 ∨ k = 3 ∨ k = 4 ∨ k = 5 ∨ k = 6) with rfl | rfl | rfl | rfl | rfl | rfl <;> simp <;> omega
  unfold Mo.fetF
  rw [e.1]
  congr 1
  exact adr_nat n g a k i _ hc hk (by rw [Int.toNat_of_nonneg e.2])
theorem fetE_00 (n g a k N : Int) (hc : cE n g a = 0) (hN : N = zV n) (hk : 1 ≤ k ∧ k ≤ 6) : Mo.fetE N n g a k 0 0 = 0 := by
  have hX := Pt.cX_bd n g a hc
  have hY := Pt.cY_bd n g a hc
  unfold Mo.fetE Mo.vE
  rw [if_neg (by omega), if_neg (by omega), if_neg (by omega), if_neg (by omega), if_neg (by omega), if_neg (by omega)]
theorem fetN_00 (n g a k N : Int) (hc : cE n g a = 0) (hN : N = zV n) (hk : 1 ≤ k ∧ k ≤ 6) : Mo.fetN N n g a k 0 0 = 64 := by
  unfold Mo.fetN; rw [fetE_00 n g a k N hc hN hk, if_pos rfl]
/-- the group's place. -/
theorem group_at (n g a : Int) (hc : cE n g a = 0) : ∃ j : Nat, j < grN n ∧ grF n j = g := by
  obtain ⟨_, h2, _⟩ := Pt.cE_cases n g a hc
  unfold inG at h2
  rw [decide_eq_true_eq] at h2
  by_cases h : ∃ j, j < grN n ∧ grF n j = g
  · exact h
  · rw [ixF_no _ (fun k hk e => h ⟨k, hk, e.symm⟩)] at h2
    omega
theorem adr_apart (n g a : Int) (k k' i i' : Nat) (hc : cE n g a = 0) (hk : 1 ≤ k ∧ k ≤ 6) (hk' : 1 ≤ k' ∧ k' ≤ 6) (hi : i < 64) (hi' : i' < 64) (h : adr n g a k i = adr n g a k' i') : k = k' ∧ i = i' := by
  obtain ⟨j, hj, rfl⟩ := group_at n g a hc
  obtain ⟨hn, hg, h3, h4⟩ := Pt.cE_cases n _ a hc
  obtain ⟨b, rfl⟩ : ∃ b : Nat, a = (b : Int) := ⟨a.toNat, by omega⟩
  rcases hn with rfl | rfl
  · have one : ∀ k i : Nat, 1 ≤ k ∧ k ≤ 6 → Wh.ix0 j (b - 1) (k - 1) i = adr 0 (grF 0 j) b k i := fun k i hk => by
      have e := Wh.ix_pl0 j b k i hj (by omega) hk
      have hr := Wh.pl_row 0 (grF 0 j) b k (.inl rfl) hg (by omega) (by omega)
      exact adr_nat _ _ _ _ _ _ hc hk (by rw [hr.1, hr.2.1]; exact e)
    rw [← one k i hk, ← one k' i' hk'] at h
    obtain ⟨_, _, _, p1, p2⟩ := Wh.ix_parts0 (j := j) (m := b - 1) (k := k - 1) (i := i) hj (by omega) (by omega) hi
    obtain ⟨_, _, _, p3, p4⟩ := Wh.ix_parts0 (j := j) (m := b - 1) (k := k' - 1) (i := i') hj (by omega) (by omega) hi'
    rw [h] at p1 p2
    omega
  · have one : ∀ k i : Nat, 1 ≤ k ∧ k ≤ 6 → Wh.ix1 j (b - 1) (k - 1) i = adr 1 (grF 1 j) b k i := fun k i hk => by
      have e := Wh.ix_pl1 j b k i hj (by omega) hk
      have hr := Wh.pl_row 1 (grF 1 j) b k (.inr rfl) hg (by omega) (by omega)
      exact adr_nat _ _ _ _ _ _ hc hk (by rw [hr.1, hr.2.1]; exact e)
    rw [← one k i hk, ← one k' i' hk'] at h
    obtain ⟨_, _, _, p1, p2⟩ := Wh.ix_parts1 (j := j) (m := b - 1) (k := k - 1) (i := i) hj (by omega) (by omega) hi
    obtain ⟨_, _, _, p3, p4⟩ := Wh.ix_parts1 (j := j) (m := b - 1) (k := k' - 1) (i := i') hj (by omega) (by omega) hi'
    rw [h] at p1 p2
    omega
/-- a block laid. -/
def layB (n g a : Int) (k : Nat) (s f : Nat → Int) : Nat → Int := layN (blA n g a k) (blS n g a k) s f 64
theorem layB_at {n g a : Int} {k : Nat} (s f : Nat → Int) (hc : cE n g a = 0) (hk : 1 ≤ k ∧ k ≤ 6) (i : Nat) (hi : i < 64) : layB n g a k s f (adr n g a k i) = s i :=
  lay_at _ _ s f (bl_fit n g a k hc hk).2.2.2.1 64 i hi
theorem layB_off {n g a : Int} {k : Nat} (s f : Nat → Int) (p : Nat) (h : ∀ i, i < 64 → p ≠ adr n g a k i) : layB n g a k s f p = f p :=
  lay_off _ _ s f p 64 h
theorem layB_twice {n g a : Int} {k : Nat} (s f : Nat → Int) (hc : cE n g a = 0) (hk : 1 ≤ k ∧ k ≤ 6) (p : Nat) : layB n g a k s (layB n g a k s f) p = layB n g a k s f p := by
  by_cases h : ∃ i, i < 64 ∧ p = adr n g a k i
  · obtain ⟨i, hi, rfl⟩ := h
    rw [layB_at s _ hc hk i hi, layB_at s _ hc hk i hi]
  · exact layB_off s _ p (fun i hi e => h ⟨i, hi, e⟩)
theorem layG_B {n g a : Int} {k N : Nat} (s f : Nat → Int) (hc : cE n g a = 0) (hN : (N : Int) = zV n) (hk : 1 ≤ k ∧ k ≤ 6) : layG n g a k N 64 s f = layB n g a k s f := by
  unfold layG layB blA blS
  rw [if_pos (layE_ok hc hN rfl (by omega))]
/-- how many of the first n are so. -/
def cnt (D : Nat → Prop) [DecidablePred D] : Nat → Nat
  | 0 => 0
  | n + 1 => cnt D n + if D n then 1 else 0
theorem cnt_mono (D E : Nat → Prop) [DecidablePred D] [DecidablePred E] (h : ∀ i, D i → E i) : ∀ n, cnt D n ≤ cnt E n
  | 0 => Nat.le_refl _
  | n + 1 => by
    have ih := cnt_mono D E h n
    unfold cnt
    by_cases hd : D n
    · rw [if_pos hd, if_pos (h n hd)]; omega
    · rw [if_neg hd]; split <;> omega
theorem cnt_one (D E : Nat → Prop) [DecidablePred D] [DecidablePred E] (x : Nat) (h : ∀ i, D i → E i ∨ i = x) : ∀ n, cnt D n ≤ cnt E n + if x < n then 1 else 0
  | 0 => by unfold cnt; split <;> omega
  | n + 1 => by
    have ih := cnt_one D E x h n
    unfold cnt
    by_cases hd : D n
    · rw [if_pos hd]
      rcases h n hd with h1 | rfl
      · rw [if_pos h1]; split <;> split at ih <;> omega
      · rw [if_pos (Nat.lt_succ_self n)]; rw [if_neg (Nat.lt_irrefl n)] at ih; split <;> omega
    · rw [if_neg hd]; split <;> split <;> split at ih <;> omega
theorem cnt_no (D : Nat → Prop) [DecidablePred D] (h : ∀ i, ¬ D i) : ∀ n, cnt D n = 0
  | 0 => rfl
  | n + 1 => by unfold cnt; rw [cnt_no D h n, if_neg (h n)]
theorem cnt_le (p : Nat → Nat) (n : Nat) : ∀ m (D : Nat → Prop) [DecidablePred D], (∀ i, D i → ∃ j, j < m ∧ i = p j) → cnt D n ≤ m
  | 0, D, _, h => by rw [cnt_no D (fun i hi => by obtain ⟨j, hj, _⟩ := h i hi; omega)]; omega
  | m + 1, D, _, h => by
    have h1 := cnt_one D (fun i => D i ∧ i ≠ p m) (p m) (fun i hi => by
      by_cases e : i = p m
      · exact .inr e
      · exact .inl ⟨hi, e⟩) n
    have h2 := cnt_le p n m (fun i => D i ∧ i ≠ p m) (fun i hi => by
      obtain ⟨j, hj, e⟩ := h i hi.1
      by_cases hjm : j = m
      · subst hjm; exact absurd e hi.2
      · exact ⟨j, by omega, e⟩)
    split at h1 <;> omega
end Pa
end Go.Proofs.Ytkeempljogjceaa
