/- What is spread is told as it was; pairs from the second place on: the plain laws, no program in sight. -/
import Derived.Test.YtngffhpkjekopaaRunsP
namespace Go.Proofs.Ytngffhpkjekopaa
open Go.RowKit
namespace Sc

theorem at_inj : ∀ i, i < 64 → ∀ k, k < 64 → at' i = at' k → i = k := by decide +kernel
theorem at_onto : ∀ q, q < 64 → ∃ p, p < 64 ∧ at' p = q := by decide +kernel
theorem at_lt : ∀ i, i < 64 → at' i < 64 := by decide +kernel
theorem at_zero : at' 0 = 0 := by decide
theorem spA_mono {first : Int} {r l : Nat → Int} {n : Nat} (h : spE first r l n = 0) : ∀ d j, j + d ≤ n → spA first r j + d ≤ spA first r (j + d)
  | 0, j, _ => by simp
  | d + 1, j, hd => by
    have e0 : spE first r l (j + d + 1) = 0 := by
      by_cases e : spE first r l (j + d + 1) = 0
      · exact e
      · rw [spE_stay e n (by omega)] at h; exact absurd h e
    have := spA_mono h d j (by omega)
    obtain ⟨_, _, _, h4, _⟩ := spE_cases e0
    show spA first r j + ((d + 1 : Nat) : Int) ≤ spA first r (j + d) + r (j + d) + 1
    omega
theorem spE_le {first : Int} {r l : Nat → Int} {n : Nat} (h : spE first r l n = 0) {k : Nat} (hk : k ≤ n) : spE first r l k = 0 := by
  by_cases e : spE first r l k = 0
  · exact e
  · rw [spE_stay e n hk] at h; exact absurd h e
/-- where the j-th level stands in the order. -/
theorem sp_pos {first : Int} {r l : Nat → Int} {n : Nat} (h : spE first r l n = 0) {j : Nat} (hj : j < n) :
    l j ≠ 0 ∧ lvl (l j) = true ∧ 0 ≤ r j ∧ spA first r j + r j ≤ 63 ∧ spA first r j + r j + 1 = spA first r (j + 1) := by
  obtain ⟨h1, h2, h3, h4, h5⟩ := spE_cases (spE_le h (show j + 1 ≤ n by omega))
  exact ⟨h2, h3, h4, by omega, rfl⟩
theorem spF_gap {first : Int} {r l : Nat → Int} (hf : first = 0 ∨ first = 1) {p : Nat} (hp : p < 64) : ∀ n, spE first r l n = 0 → (∀ j, j < n → (p : Int) ≠ spA first r j + r j) → spF first r l n (at' p) = 0
  | 0, _, _ => rfl
  | n + 1, h, hg => by
    have hb := spA_bd hf n (spE_le h (by omega))
    obtain ⟨_, _, h3, h4, _⟩ := sp_pos h (show n < n + 1 by omega)
    have ih := spF_gap hf hp n (spE_le h (by omega)) (fun j hj => hg j (by omega))
    show (if at' p = at' (spA first r n + r n).toNat then l n else spF first r l n (at' p)) = 0
    rw [if_neg, ih]
    intro e
    have := at_inj _ hp _ (by omega) e
    exact hg n (by omega) (by omega)
theorem spF_at {first : Int} {r l : Nat → Int} (hf : first = 0 ∨ first = 1) {j : Nat} : ∀ n, j < n → spE first r l n = 0 → spF first r l n (at' (spA first r j + r j).toNat) = l j
  | 0, hj, _ => absurd hj (by omega)
  | n + 1, hj, h => by
    show (if at' (spA first r j + r j).toNat = at' (spA first r n + r n).toNat then l n else spF first r l n _) = l j
    by_cases e : j = n
    · subst e; rw [if_pos rfl]
    · have hb := spA_bd hf n (spE_le h (by omega))
      have hb2 := spA_bd hf j (spE_le h (by omega))
      obtain ⟨_, _, h3, h4, _⟩ := sp_pos h (show n < n + 1 by omega)
      obtain ⟨_, _, g3, g4, g5⟩ := sp_pos h hj
      have hm := spA_mono (spE_le h (show n ≤ n + 1 by omega)) (n - (j + 1)) (j + 1) (by omega)
      rw [show j + 1 + (n - (j + 1)) = n by omega] at hm
      rw [if_neg, spF_at hf n (by omega) (spE_le h (by omega))]
      intro e2
      have := at_inj _ (by omega) _ (by omega) e2
      omega
theorem lvl_zero : lvl 0 = true := by decide
theorem spF_lvl {first : Int} {r l : Nat → Int} (p : Nat) : ∀ n, spE first r l n = 0 → lvl (spF first r l n p) = true
  | 0, _ => lvl_zero
  | n + 1, h => by
    obtain ⟨h1, h2, h3, _, _⟩ := spE_cases h
    show lvl (if p = at' (spA first r n + r n).toNat then l n else spF first r l n p) = true
    by_cases e : p = at' (spA first r n + r n).toNat
    · rw [if_pos e]; exact h3
    · rw [if_neg e]; exact spF_lvl p n h1
theorem okV_all {f : Nat → Int} {k : Nat} (h : ∀ i, i < k → lvl (f i) = true) : okV f k = true := by
  unfold okV; rw [List.all_eq_true]; intro i hi; exact h i (List.mem_range.1 hi)
/-- runs of noughts: d places behind K without a level. -/
theorem ru_gap {f : Nat → Int} {first K : Nat} : ∀ d, (∀ i, i < d → f (at' (first + (K + i))) = 0) →
    (ruS f first (K + d)).c = (ruS f first K).c ∧ (ruS f first (K + d)).run = (ruS f first K).run + d ∧ (ruS f first (K + d)).r = (ruS f first K).r ∧ (ruS f first (K + d)).l = (ruS f first K).l
  | 0, _ => by simp
  | d + 1, h => by
    obtain ⟨e1, e2, e3, e4⟩ := ru_gap d (fun i hi => h i (by omega))
    obtain ⟨z1, z2, z3, z4⟩ := ruS_zero (f := f) (first := first) (k := K + d) (h d (by omega))
    rw [show K + (d + 1) = K + d + 1 by omega, z1, z2, z3, z4, e1, e2, e3, e4]
    refine ⟨rfl, by omega, rfl, rfl⟩
/-- behind the places of k pairs. -/
theorem ru_pairs {first : Nat} {r l : Nat → Int} {n : Nat} (hf : first = 0 ∨ first = 1) (h : spE first r l n = 0) : ∀ k, k ≤ n → ∃ K : Nat, (first + K : Nat) = spA first r k
    ∧ (ruS (spF first r l n) first K).c = k ∧ (ruS (spF first r l n) first K).run = 0 ∧ ∀ i, i < k → (ruS (spF first r l n) first K).r i = r i ∧ (ruS (spF first r l n) first K).l i = l i
  | 0, _ => ⟨0, rfl, rfl, rfl, fun i hi => absurd hi (by omega)⟩
  | k + 1, hk => by
    have hf' : (first : Int) = 0 ∨ (first : Int) = 1 := by omega
    obtain ⟨K, hK, h1, h2, h3⟩ := ru_pairs hf h k (by omega)
    obtain ⟨p1, p2, p3, p4, p5⟩ := sp_pos h (show k < n by omega)
    have hgap : ∀ i, i < (r k).toNat → spF first r l n (at' (first + (K + i))) = 0 := by
      intro i hi
      refine spF_gap hf' (by omega) n h ?_
      intro j hj e
      obtain ⟨_, _, q3, q4, q5⟩ := sp_pos h hj
      by_cases c : j < k
      · have hm := spA_mono h (k - (j + 1)) (j + 1) (by omega)
        rw [show j + 1 + (k - (j + 1)) = k by omega] at hm
        omega
      · by_cases c2 : j = k
        · subst c2; omega
        · have hm := spA_mono h (j - (k + 1)) (k + 1) (by omega)
          rw [show k + 1 + (j - (k + 1)) = j by omega] at hm
          omega
    obtain ⟨g1, g2, g3, g4⟩ := ru_gap (r k).toNat hgap
    have hv : spF first r l n (at' (first + (K + (r k).toNat))) = l k := by
      have e := spF_at hf' (j := k) n (by omega) h
      rw [show (spA first r k + r k).toNat = first + (K + (r k).toNat) by omega] at e
      exact e
    obtain ⟨s1, s2, s3, s4⟩ := ruS_some (f := spF first r l n) (first := first) (k := K + (r k).toNat) (by rw [hv]; exact p1)
    refine ⟨K + (r k).toNat + 1, by omega, by rw [s1, g1, h1], s2, fun i hi => ?_⟩
    rw [s3, s4, g1, h1, g2, h2, g3, g4, hv]
    by_cases e : i = k
    · subst e
      simp only [if_pos]
      exact ⟨by omega, trivial⟩
    · simp only [if_neg e]
      exact h3 i (by omega)
/-- what is spread is told as it was. -/
theorem back_runs {first : Nat} {r l : Nat → Int} {n : Nat} (hf : first = 0 ∨ first = 1) (h : sE first n r l = 0) :
    rE first 64 (spF first r l n) = 0 ∧ rN first 64 (spF first r l n) = n ∧ ∀ i, i < n → r i = rR first (spF first r l n) i ∧ l i = rL first (spF first r l n) i := by
  have hf' : (first : Int) = 0 ∨ (first : Int) = 1 := by omega
  have h : spE first r l n = 0 := by unfold sE at h; rw [if_pos hf'] at h; exact h
  have e0 : rE first 64 (spF first r l n) = 0 := by
    unfold rE
    rw [if_pos hf', if_neg, if_pos (okV_all fun i _ => spF_lvl i n h)]
    rintro (e | ⟨e1, e2⟩)
    · exact e rfl
    · apply e2
      have := spF_gap hf' (p := 0) (by omega) n h (by
        intro j hj e
        obtain ⟨_, _, q3, q4, q5⟩ := sp_pos h hj
        have hm := spA_mono h j 0 (by omega)
        simp only [spA] at hm
        rw [Nat.zero_add] at hm
        omega)
      rw [at_zero] at this; exact this
  obtain ⟨K, hK, h1, h2, h3⟩ := ru_pairs hf h n (Nat.le_refl _)
  have hb := spA_bd hf' n h
  have hgap : ∀ i, i < 64 - first - K → spF first r l n (at' (first + (K + i))) = 0 := by
    intro i hi
    refine spF_gap hf' (by omega) n h ?_
    intro j hj e
    obtain ⟨_, _, q3, q4, q5⟩ := sp_pos h hj
    have hm := spA_mono h (n - (j + 1)) (j + 1) (by omega)
    rw [show j + 1 + (n - (j + 1)) = n by omega] at hm
    omega
  obtain ⟨g1, g2, g3, g4⟩ := ru_gap (64 - first - K) hgap
  rw [show K + (64 - first - K) = 64 - first by omega] at g1 g2 g3 g4
  refine ⟨e0, ?_, fun i hi => ?_⟩
  · unfold rN; rw [if_pos e0]; show (ruS _ first (64 - first)).c = n; rw [g1, h1]
  · obtain ⟨a1, a2⟩ := h3 i hi
    constructor
    · show r i = (ruS _ first (64 - first)).r i; rw [g3, a1]
    · show l i = (ruS _ first (64 - first)).l i; rw [g4, a2]

theorem spA_congr {first : Int} {r r' : Nat → Int} : ∀ n, (∀ i, i < n → r i = r' i) → spA first r n = spA first r' n
  | 0, _ => rfl
  | n + 1, h => by rw [spA, spA, spA_congr n (fun i hi => h i (by omega)), h n (by omega)]
theorem spE_congr {first : Int} {r l r' l' : Nat → Int} : ∀ n, (∀ i, i < n → r i = r' i ∧ l i = l' i) → spE first r l n = spE first r' l' n
  | 0, _ => rfl
  | n + 1, h => by
    rw [spE, spE, spE_congr n (fun i hi => h i (by omega)), spA_congr n (fun i hi => (h i (by omega)).1), (h n (by omega)).1, (h n (by omega)).2]
theorem spF_congr {first : Int} {r l r' l' : Nat → Int} : ∀ n, (∀ i, i < n → r i = r' i ∧ l i = l' i) → spF first r l n = spF first r' l' n
  | 0, _ => rfl
  | n + 1, h => by
    rw [spF, spF, spF_congr n (fun i hi => h i (by omega)), spA_congr n (fun i hi => (h i (by omega)).1), (h n (by omega)).1, (h n (by omega)).2]
theorem ru_spread {first : Nat} {f : Nat → Int} (hf : first = 0 ∨ first = 1) (h0 : first = 1 → f 0 = 0) (hl : ∀ i, i < 64 → lvl (f i) = true) : ∀ K, first + K ≤ 64 →
    spE first (ruS f first K).r (ruS f first K).l (ruS f first K).c = 0 ∧ spA first (ruS f first K).r (ruS f first K).c + (ruS f first K).run = first + K
      ∧ ∀ p, p < 64 → spF first (ruS f first K).r (ruS f first K).l (ruS f first K).c (at' p) = if p < first + K then f (at' p) else 0
  | 0, _ => by
    refine ⟨rfl, by simp [ruS, spA], fun p hp => ?_⟩
    show (0 : Int) = _
    split
    · obtain rfl : p = 0 := by omega
      rw [at_zero, h0 (by omega)]
    · rfl
  | K + 1, hK => by
    obtain ⟨i1, i2, i3⟩ := ru_spread hf h0 hl K (by omega)
    by_cases hz : f (at' (first + K)) = 0
    · obtain ⟨z1, z2, z3, z4⟩ := ruS_zero hz
      rw [z1, z2, z3, z4]
      refine ⟨i1, by omega, fun p hp => ?_⟩
      rw [i3 p hp]
      by_cases e : p = first + K
      · subst e; rw [if_neg (by omega), if_pos (by omega), hz]
      · by_cases c : p < first + K
        · rw [if_pos c, if_pos (by omega)]
        · rw [if_neg c, if_neg (by omega)]
    · obtain ⟨z1, z2, z3, z4⟩ := ruS_some hz
      obtain ⟨b1, b2, b3⟩ := ruS_bd f first K
      obtain ⟨S, hS⟩ : ∃ S, S = ruS f first K := ⟨_, rfl⟩
      rw [z1, z2, z3, z4]
      rw [← hS] at i1 i2 i3 b1 b2 b3 ⊢
      have cr : ∀ i, i < S.c → (fun i => if i = S.c then S.run else S.r i) i = S.r i ∧ (fun i => if i = S.c then f (at' (first + K)) else S.l i) i = S.l i := fun i hi => by simp only [if_neg (show i ≠ S.c by omega)]; exact ⟨trivial, trivial⟩
      have eA := spA_congr (first := first) S.c (fun i hi => (cr i hi).1)
      have eE := spE_congr (first := first) S.c cr
      have eF := spF_congr (first := first) S.c cr
      have hlv : lvl (f (at' (first + K))) = true := hl _ (at_lt _ (by omega))
      refine ⟨?_, ?_, fun p hp => ?_⟩
      · rw [spE, eE, eA, i1]
        simp only [ne_eq, not_true_eq_false, if_false, if_true]
        rw [if_neg, if_neg]
        · omega
        · rintro (e | e)
          · exact hz e
          · rw [hlv] at e; cases e
      · rw [spA, eA]
        simp only [if_true]
        omega
      · rw [spF, eF, eA]
        simp only [if_true]
        rw [i2]
        rw [show ((first : Int) + (K : Int)).toNat = first + K by omega]
        by_cases e : p = first + K
        · subst e; rw [if_pos rfl, if_pos (by omega)]
        · rw [if_neg (fun e2 => e (at_inj _ hp _ (by omega) e2)), i3 p hp]
          by_cases c : p < first + K
          · rw [if_pos c, if_pos (by omega)]
          · rw [if_neg c, if_neg (by omega)]
/-- a block's runs are spread to it. -/
theorem back_spread {first : Nat} {f : Nat → Int} (hf : first = 0 ∨ first = 1) (h0 : first = 1 → f 0 = 0) (hl : ∀ i, i < 64 → lvl (f i) = true) :
    rE first 64 f = 0 ∧ rN first 64 f ≤ 64 ∧ sE first (rN first 64 f) (rR first f) (rL first f) = 0 ∧ sN first (rN first 64 f) (rR first f) (rL first f) = 64 ∧ ∀ i, i < 64 → spF first (rR first f) (rL first f) (rN first 64 f) i = f i := by
  have hf' : (first : Int) = 0 ∨ (first : Int) = 1 := by omega
  have e0 : rE first 64 f = 0 := by
    unfold rE
    rw [if_pos hf', if_neg, if_pos (okV_all hl)]
    rintro (e | ⟨e1, e2⟩)
    · exact e rfl
    · exact e2 (h0 (by omega))
  have eN : rN first 64 f = (ruS f first (64 - first)).c := by unfold rN; rw [if_pos e0]; rfl
  have eR : rR first f = (ruS f first (64 - first)).r := rfl
  have eL : rL first f = (ruS f first (64 - first)).l := rfl
  obtain ⟨i1, i2, i3⟩ := ru_spread hf h0 hl (64 - first) (by omega)
  obtain ⟨b1, b2, b3⟩ := ruS_bd f first (64 - first)
  rw [eN, eR, eL]
  have s0 : sE first (ruS f first (64 - first)).c (ruS f first (64 - first)).r (ruS f first (64 - first)).l = 0 := by
    unfold sE; rw [if_pos hf']; exact i1
  refine ⟨e0, by omega, s0, by unfold sN; rw [if_pos s0], fun i hi => ?_⟩
  obtain ⟨p, hp, rfl⟩ := at_onto i hi
  rw [i3 p hp, if_pos (by omega)]

/-- pairs with one nought more ahead. -/
def up (r : Nat → Int) : Nat → Int := fun i => if i = 0 then r 0 + 1 else r i
theorem up_A (r : Nat → Int) : ∀ k, spA 0 (up r) (k + 1) = spA 1 r (k + 1)
  | 0 => by simp [spA, up]; omega
  | k + 1 => by
    have e := up_A r k
    rw [spA, e, spA]
    rw [show up r (k + 1) = r (k + 1) by simp [up]]
    rfl
theorem up_E {r l : Nat → Int} (h : 0 ≤ r 0) : ∀ k, spE 0 (up r) l k = spE 1 r l k
  | 0 => rfl
  | 1 => by
    show (if l 0 = 0 ∨ lvl (l 0) = false then (10 : Int) else if r 0 + 1 < 0 ∨ 63 - (0 : Int) < r 0 + 1 then 11 else 0) = (if l 0 = 0 ∨ lvl (l 0) = false then (10 : Int) else if r 0 < 0 ∨ 63 - (1 : Int) < r 0 then 11 else 0)
    by_cases h1 : l 0 = 0 ∨ lvl (l 0) = false
    · rw [if_pos h1, if_pos h1]
    · rw [if_neg h1, if_neg h1]
      by_cases h2 : 62 < r 0
      · rw [if_pos (by omega), if_pos (by omega)]
      · rw [if_neg (by omega), if_neg (by omega)]
  | k + 2 => by
    rw [spE, up_E h (k + 1), up_A, show up r (k + 1) = r (k + 1) by simp [up]]
    rfl
theorem up_F (r l : Nat → Int) : ∀ k, spF 0 (up r) l k = spF 1 r l k
  | 0 => rfl
  | 1 => by
    funext p
    show (if p = at' (0 + (r 0 + 1)).toNat then l 0 else (0 : Int)) = if p = at' (1 + r 0).toNat then l 0 else 0
    rw [show (0 : Int) + (r 0 + 1) = 1 + r 0 by omega]
  | k + 2 => by
    rw [spF, up_F r l (k + 1), up_A, show up r (k + 1) = r (k + 1) by simp [up]]
    rfl
theorem up_sE {r l : Nat → Int} {n : Nat} (h : 0 ≤ r 0) : sE 0 n (up r) l = sE 1 n r l := by
  unfold sE; rw [if_pos (by decide), if_pos (by decide), up_E h]
theorem up_bad {r l : Nat → Int} {n : Nat} (hn : 0 < n) (h : r 0 < 0 ∨ 100 < r 0) : sE 1 n r l ≠ 0 := by
  unfold sE; rw [if_pos (by decide)]
  intro e
  obtain ⟨_, _, h3, h4, _⟩ := sp_pos e hn
  simp only [spA] at h4
  omega
end Sc
end Go.Proofs.Ytngffhpkjekopaa
