/- Rows of pairs in memory; what pairs are spread to, no program in sight. -/
import Derived.Test.YtngffhpkjekopaaScanP
namespace Go.Proofs.Ytngffhpkjekopaa
open Go.RowKit

/-- n pairs of a block from o on, and the numbers in them. -/
def Pairs (w : World) (b o n : Nat) (r l : Nat → Int) : Prop := ∀ i, i < n → w.cell? ⟨b, o + i * 2, none⟩ = some (.int .i64 (r i)) ∧ w.cell? ⟨b, o + i * 2 + 1, none⟩ = some (.int .i64 (l i))
/-- a slice value that reads as n pairs. -/
def Pl (w : World) (v : Value) (n : Nat) (r l : Nat → Int) : Prop :=
  ∃ a c, v = .slice a n c ∧ n ≤ c ∧ c ≤ maxLen ∧ ((n = 0 ∧ (a = none → c = 0)) ∨ ∃ b o, a = some ⟨b, o, none⟩ ∧ b < w.heap.size ∧ Pairs w b o n r l)
theorem Pairs.below {w w' : World} {b o n B : Nat} {r l : Nat → Int} (h : Pairs w b o n r l) (hw : Below B w w') (hb : b < B) : Pairs w' b o n r l :=
  fun i hi => ⟨(hw.cell (p := ⟨b, o + i * 2, none⟩) hb).trans (h i hi).1, (hw.cell (p := ⟨b, o + i * 2 + 1, none⟩) hb).trans (h i hi).2⟩
theorem Pairs.lt {w : World} {b o n : Nat} {r l : Nat → Int} (h : Pairs w b o n r l) (hn : 0 < n) : b < w.heap.size := World.block_lt_of_cell? w _ (h 0 hn).1
theorem Pl.below {w w' : World} {v : Value} {n : Nat} {r l : Nat → Int} (h : Pl w v n r l) (hw : Below w.heap.size w w') : Pl w' v n r l := by
  obtain ⟨a, c, rfl, h1, h2, h3⟩ := h
  rcases h3 with h3 | ⟨b, o, rfl, h4, h5⟩
  · exact ⟨a, c, rfl, h1, h2, .inl h3⟩
  · exact ⟨_, c, rfl, h1, h2, .inr ⟨b, o, rfl, Nat.lt_of_lt_of_le h4 hw.size, h5.below hw h4⟩⟩
namespace Sc

def lvl (x : Int) : Bool := decide (-127 ≤ x ∧ x ≤ 127)
/-- the next place, behind k pairs. -/
def spA (first : Int) (r : Nat → Int) : Nat → Int
  | 0 => first
  | k + 1 => spA first r k + r k + 1
/-- the error, behind k pairs. -/
def spE (first : Int) (r l : Nat → Int) : Nat → Int
  | 0 => 0
  | k + 1 => if spE first r l k ≠ 0 then spE first r l k else if l k = 0 ∨ lvl (l k) = false then 10 else if r k < 0 ∨ 63 - spA first r k < r k then 11 else 0
/-- the block, behind k pairs. -/
def spF (first : Int) (r l : Nat → Int) : Nat → Nat → Int
  | 0 => fun _ => 0
  | k + 1 => fun p => if p = at' (spA first r k + r k).toNat then l k else spF first r l k p
def sE (first : Int) (n : Nat) (r l : Nat → Int) : Int := if first = 0 ∨ first = 1 then spE first r l n else 3
def sN (first : Int) (n : Nat) (r l : Nat → Int) : Nat := if sE first n r l = 0 then 64 else 0
/-- what Spread comes to. -/
def Spreads (w : World) (first : Int) (n : Nat) (r l : Nat → Int) (e : Ending) (w' : World) : Prop :=
  ∃ v, e = .returned (.tuple #[v, .int .i64 (sE first n r l)]) ∧ Res .i64 w.heap.size w' v (sN first n r l) (spF first r l n) ∧ Below w.heap.size w w'
theorem spE_succ (first : Int) (r l : Nat → Int) (k : Nat) : spE first r l (k + 1) = if spE first r l k ≠ 0 then spE first r l k else if l k = 0 ∨ lvl (l k) = false then 10 else if r k < 0 ∨ 63 - spA first r k < r k then 11 else 0 := rfl
theorem spE_stay {first : Int} {r l : Nat → Int} {k : Nat} (h : spE first r l k ≠ 0) : ∀ n, k ≤ n → spE first r l n = spE first r l k
  | 0, hn => by obtain rfl : k = 0 := by omega
                rfl
  | n + 1, hn => by
    by_cases e : k = n + 1
    · rw [e]
    · have ih := spE_stay h n (by omega)
      rw [spE_succ, ih, if_pos h]
theorem spE_cases {first : Int} {r l : Nat → Int} {k : Nat} (h : spE first r l (k + 1) = 0) : spE first r l k = 0 ∧ l k ≠ 0 ∧ lvl (l k) = true ∧ 0 ≤ r k ∧ r k ≤ 63 - spA first r k := by
  rw [spE_succ] at h
  by_cases h0 : spE first r l k ≠ 0
  · rw [if_pos h0] at h; exact absurd h h0
  · rw [if_neg h0] at h
    by_cases h1 : l k = 0 ∨ lvl (l k) = false
    · rw [if_pos h1] at h; exact absurd h (by decide)
    · rw [if_neg h1] at h
      by_cases h2 : r k < 0 ∨ 63 - spA first r k < r k
      · rw [if_pos h2] at h; exact absurd h (by decide)
      · refine ⟨by omega, fun e => h1 (.inl e), ?_, by omega, by omega⟩
        cases e : lvl (l k)
        · exact absurd (.inr e) h1
        · rfl
theorem spA_bd {first : Int} {r l : Nat → Int} (hf : first = 0 ∨ first = 1) : ∀ k, spE first r l k = 0 → 0 ≤ spA first r k ∧ spA first r k ≤ 64
  | 0, _ => by simp only [spA]; omega
  | k + 1, h => by
    obtain ⟨h1, _, _, h4, h5⟩ := spE_cases h
    have := spA_bd hf k h1
    simp only [spA]; omega
end Sc
end Go.Proofs.Ytngffhpkjekopaa
