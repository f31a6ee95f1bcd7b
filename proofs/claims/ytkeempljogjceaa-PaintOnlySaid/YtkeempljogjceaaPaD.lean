/- A picture, all spots copied: plain. -/
import Derived.Test.YtkeempljogjceaaPa9
import Derived.Test.YtkeempljogjceaaIx
namespace Go.Proofs.Ytkeempljogjceaa
open Go.RowKit
namespace Pa
open Fr Pt

/-- where sample i of block k stands. -/
def adr (n g a : Int) (k i : Nat) : Nat := blA n g a k + i / 8 * blS n g a k + i % 8
theorem lay_keep {A S : Nat} {F f : Nat → Int} {i : Nat} (h : f i = F i) : ∀ m, layN A S (srcF A S F) f m i = F i
  | 0 => h
  | m + 1 => by
    show putOne A S (srcF A S F) (layN A S (srcF A S F) f m) m i = F i
    unfold putOne
    by_cases hi : i = A + m / 8 * S + m % 8
    · rw [if_pos hi, hi]; rfl
    · rw [if_neg hi]; exact lay_keep h m
theorem cop_keep {n g a : Int} {F f : Nat → Int} {i : Nat} (h : f i = F i) : ∀ k, copF n g a F f k i = F i
  | 0 => h
  | k + 1 => lay_keep (cop_keep h k) 64
theorem cop_in {n g a : Int} {F f : Nat → Int} {k i : Nat} (hc : cE n g a = 0) (hk : 1 ≤ k ∧ k ≤ 6) (hi : i < 64) : ∀ m, k ≤ m → m ≤ 6 → copF n g a F f m (adr n g a k i) = F (adr n g a k i)
  | 0, h, _ => by omega
  | m + 1, h, h6 => by
    by_cases e : k = m + 1
    · subst e
      exact lay_at _ _ _ _ (bl_fit n g a (m + 1) hc (by omega)).2.2.2.1 64 i hi
    · exact lay_keep (cop_in hc hk hi m (by omega) (by omega)) 64
theorem cop_off {n g a : Int} {F f : Nat → Int} {p : Nat} : ∀ m, (∀ k i, 1 ≤ k → k ≤ m → i < 64 → p ≠ adr n g a k i) → copF n g a F f m p = f p
  | 0, _ => rfl
  | m + 1, h => by
    show layN _ _ _ (copF n g a F f m) 64 p = f p
    rw [lay_off _ _ _ _ _ _ (fun j hj => h (m + 1) j (by omega) (by omega) hj)]
    exact cop_off m (fun k i h1 h2 => h k i h1 (by omega))
theorem adr_nat (n g a : Int) (k i p : Nat) (hc : cE n g a = 0) (hk : 1 ≤ k ∧ k ≤ 6) (h : (p : Int) = pA n g a k + (i : Int) / 8 * pS n g a k + (i : Int) % 8) : p = adr n g a k i := by
  have fit := bl_fit n g a k hc hk
  unfold adr
  rw [← fit.1, ← fit.2.1] at h
  have e : ((i / 8 * blS n g a k : Nat) : Int) = (i : Int) / 8 * (blS n g a k : Int) := by push_cast; rfl
  omega
/-- each sample is of some block. -/
theorem cover (n : Int) (hn : n = 0 ∨ n = 1) (p : Nat) (hp : (p : Int) < zV n) : ∃ j a k i : Nat, j < grN n ∧ (1 ≤ a ∧ a ≤ 33) ∧ (1 ≤ k ∧ k ≤ 6) ∧ i < 64 ∧ p = adr n (grF n j) a k i := by
  rcases hn with rfl | rfl
  · obtain ⟨⟨h1, h2, h3, h4⟩, h5⟩ := Wh.parts_ok0 (p := p) (by have : zV 0 = 38016 := rfl; omega)
    have e := Wh.ix_pl0 (Wh.pj0 p) (Wh.pm0 p + 1) (Wh.pk0 p + 1) (Wh.pi0 p) h1 (by omega) (by omega)
    rw [Nat.add_sub_cancel, Nat.add_sub_cancel, h5] at e
    have hg := Wh.ing_of 0 (Wh.pj0 p) h1
    have hr := Wh.pl_row 0 (grF 0 (Wh.pj0 p)) ((Wh.pm0 p + 1 : Nat) : Int) ((Wh.pk0 p + 1 : Nat) : Int) (.inl rfl) hg (by omega) (by omega)
    refine ⟨Wh.pj0 p, Wh.pm0 p + 1, Wh.pk0 p + 1, Wh.pi0 p, h1, by omega, by omega, h4, adr_nat _ _ _ _ _ _ (Wh.cE_ok 0 _ _ (.inl rfl) hg (by omega)) (by omega) ?_⟩
    rw [hr.1, hr.2.1]
    exact e
  · obtain ⟨⟨h1, h2, h3, h4⟩, h5⟩ := Wh.parts_ok1 (p := p) (by have : zV 1 = 152064 := rfl; omega)
    have e := Wh.ix_pl1 (Wh.pj1 p) (Wh.pm1 p + 1) (Wh.pk1 p + 1) (Wh.pi1 p) h1 (by omega) (by omega)
    rw [Nat.add_sub_cancel, Nat.add_sub_cancel, h5] at e
    have hg := Wh.ing_of 1 (Wh.pj1 p) h1
    have hr := Wh.pl_row 1 (grF 1 (Wh.pj1 p)) ((Wh.pm1 p + 1 : Nat) : Int) ((Wh.pk1 p + 1 : Nat) : Int) (.inr rfl) hg (by omega) (by omega)
    refine ⟨Wh.pj1 p, Wh.pm1 p + 1, Wh.pk1 p + 1, Wh.pi1 p, h1, by omega, by omega, h4, adr_nat _ _ _ _ _ _ (Wh.cE_ok 1 _ _ (.inr rfl) hg (by omega)) (by omega) ?_⟩
    rw [hr.1, hr.2.1]
    exact e
/-- what is copied by now: all groups ahead of G, and of G the addresses ahead of A. -/
def Cop (n : Int) (F f : Nat → Int) (G A : Int) : Prop := ∀ j a k i : Nat, j < grN n → (1 ≤ a ∧ a ≤ 33) → (1 ≤ k ∧ k ≤ 6) → i < 64 → (grF n j < G ∨ (grF n j = G ∧ (a : Int) < A)) → f (adr n (grF n j) a k i) = F (adr n (grF n j) a k i)
theorem grN_val : grN 0 = 3 ∧ grN 1 = 12 := ⟨rfl, rfl⟩
theorem Cop.start (n : Int) (hn : n = 0 ∨ n = 1) (F f : Nat → Int) : Cop n F f 1 1 := fun j a k i _ ha _ _ h => by
  unfold grF at h
  rcases hn with rfl | rfl <;> omega
theorem Cop.copy {n : Int} {F f : Nat → Int} {G A : Int} (h : Cop n F f G A) (hc : cE n G A = 0) : Cop n F (copF n G A F f 6) G (A + 1) := fun j a k i hj ha hk hi hb => by
  by_cases e : grF n j = G ∧ (a : Int) = A
  · obtain ⟨e1, e2⟩ := e
    rw [e1, e2]
    exact cop_in hc hk hi 6 hk.2 (by omega)
  · exact cop_keep (h j a k i hj ha hk hi (by omega)) 6
theorem Cop.next {n : Int} {F f : Nat → Int} {G : Int} (h : Cop n F f G 34) : Cop n F f (G + 1) 1 := fun j a k i hj ha hk hi hb => h j a k i hj ha hk hi (by omega)
theorem Cop.skip {F f : Nat → Int} {G : Int} (h : Cop 0 F f G 1) (hG : 5 < G ∨ G % 2 = 0) : Cop 0 F f (G + 1) 1 := fun j a k i hj ha hk hi hb => h j a k i hj ha hk hi (by
  have : j < 3 := hj
  unfold grF at hb ⊢
  omega)
theorem Cop.all {n : Int} (hn : n = 0 ∨ n = 1) {F f : Nat → Int} (h : Cop n F f 13 1) (p : Nat) (hp : (p : Int) < zV n) : f p = F p := by
  obtain ⟨j, a, k, i, hj, ha, hk, hi, rfl⟩ := cover n hn p hp
  exact h j a k i hj ha hk hi (.inl (by unfold grF; rcases hn with rfl | rfl <;> (have := grN_val; omega)))
/-- a group of a picture. -/
theorem in_group (n G A : Int) (hn : n = 0 ∨ n = 1) (hG : 1 ≤ G ∧ G ≤ 12) (h : ¬ (n = 0 ∧ (5 < G ∨ G % 2 = 0))) (hA : 1 ≤ A ∧ A ≤ 33) : cE n G A = 0 := by
  rcases hn with rfl | rfl
  · have hg := Wh.ing_of 0 ((G - 1) / 2).toNat (by have := grN_val; omega)
    rw [show grF 0 ((G - 1) / 2).toNat = G by unfold grF; omega] at hg
    exact Wh.cE_ok 0 G A (.inl rfl) hg hA
  · have hg := Wh.ing_of 1 (G - 1).toNat (by have := grN_val; omega)
    rw [show grF 1 (G - 1).toNat = G by unfold grF; omega] at hg
    exact Wh.cE_ok 1 G A (.inr rfl) hg hA
end Pa
end Go.Proofs.Ytkeempljogjceaa
