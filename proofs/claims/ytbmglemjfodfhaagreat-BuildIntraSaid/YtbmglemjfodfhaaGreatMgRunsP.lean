/- Which pairs a block is, no program in sight; rows of pairs of the call's own. -/
import Derived.Test.YtbmglemjfodfhaaGreatMgScanR
set_option linter.unusedVariables false
set_option linter.unusedSimpArgs false

namespace Go.Proofs.YtbmglemjfodfhaaGreat
open Go.RowKit

/-- the cells of the first n pairs. -/
def pcs (r l : Nat → Int) : Nat → List Value
  | 0 => []
  | n + 1 => pcs r l n ++ [.int .i64 (r n), .int .i64 (l n)]
theorem pcs_len (r l : Nat → Int) : ∀ n, (pcs r l n).length = n * 2
  | 0 => rfl
  | n + 1 => by simp [pcs, pcs_len r l n]; omega
theorem pcs_congr {r l r' l' : Nat → Int} : ∀ n, (∀ i, i < n → r i = r' i ∧ l i = l' i) → pcs r l n = pcs r' l' n
  | 0, _ => rfl
  | n + 1, h => by
    rw [pcs, pcs, pcs_congr n (fun i hi => h i (by omega)), (h n (by omega)).1, (h n (by omega)).2]
theorem pcs_get (r l : Nat → Int) : ∀ n i, i < n → (pcs r l n)[i * 2]? = some (.int .i64 (r i)) ∧ (pcs r l n)[i * 2 + 1]? = some (.int .i64 (l i))
  | 0, i, h => absurd h (by omega)
  | n + 1, i, h => by
    have hl := pcs_len r l n
    by_cases e : i = n
    · subst e
      constructor
      · rw [pcs, List.getElem?_append_right (by omega), hl, Nat.sub_self]; rfl
      · rw [pcs, List.getElem?_append_right (by omega), hl, show i * 2 + 1 - i * 2 = 1 by omega]; rfl
    · have ih := pcs_get r l n i (by omega)
      constructor
      · rw [pcs, List.getElem?_append_left (by omega)]; exact ih.1
      · rw [pcs, List.getElem?_append_left (by omega)]; exact ih.2
/-- a slice of pairs of the call's own: nil, if it is empty; else a row in a block from B on. -/
def RPl (B : Nat) (w : World) (v : Value) (n : Nat) (r l : Nat → Int) : Prop :=
  (n = 0 ∧ v = .slice none 0 0) ∨ ∃ g c, v = .slice (some ⟨g, 0, none⟩) n c ∧ B ≤ g ∧ g < w.heap.size ∧ n ≤ c ∧ c ≤ maxLen ∧ Pairs w g 0 n r l
theorem RPl.of_own {w : World} {B n : Nat} {e : TypeId} {v : Value} {r l : Nat → Int} (h : w.ownsRow B e 2 v n (pcs r l n)) : RPl B w v n r l := by
  have hc := fun g => World.ownsRow.cells h (g := g)
  rcases h.2 with ⟨h0, h1⟩ | ⟨g, cap, cur, rfl, hb, hg, h1, h2, h3, h4⟩
  · exact .inl ⟨h1, h0⟩
  · refine .inr ⟨g, cap, rfl, hb, (Array.getElem?_eq_some_iff.1 hg).1, h1, h2, fun i hi => ?_⟩
    obtain ⟨p1, p2⟩ := pcs_get r l n i hi
    have a1 := hc g rfl _ _ p1
    have a2 := hc g rfl _ _ p2
    have ad : ∀ j, (⟨g, 0, none⟩ : Addr).add j = ⟨g, j, none⟩ := fun j => by unfold Addr.add; split <;> simp_all
    rw [ad] at a1 a2
    rw [show 0 + i * 2 = i * 2 by omega]
    exact ⟨a1, a2⟩
theorem RPl.mono {w : World} {B B' n : Nat} {v : Value} {r l : Nat → Int} (hb : B' ≤ B) (h : RPl B w v n r l) : RPl B' w v n r l := by
  rcases h with h | ⟨g, c, rfl, h1, h2⟩
  · exact .inl h
  · exact .inr ⟨g, c, rfl, Nat.le_trans hb h1, h2⟩
theorem RPl.pl {w : World} {B n : Nat} {v : Value} {r l : Nat → Int} (h : RPl B w v n r l) : Pl w v n r l := by
  rcases h with ⟨h0, rfl⟩ | ⟨g, c, rfl, h1, h2, h3, h4, h5⟩
  · subst h0; exact ⟨none, 0, rfl, Nat.le_refl _, Nat.zero_le _, .inl ⟨rfl, fun _ => rfl⟩⟩
  · exact ⟨_, c, rfl, h3, h4, .inr ⟨g, 0, rfl, h2, h5⟩⟩
theorem RPl.below {w w' : World} {B n : Nat} {v : Value} {r l : Nat → Int} (h : RPl B w v n r l) (hw : Below w.heap.size w w') : RPl B w' v n r l := by
  rcases h with h | ⟨g, c, rfl, h1, h2, h3, h4, h5⟩
  · exact .inl h
  · exact .inr ⟨g, c, rfl, h1, Nat.lt_of_lt_of_le h2 hw.size, h3, h4, h5.below hw h2⟩
theorem Pl.congr {w : World} {v : Value} {n : Nat} {r l r' l' : Nat → Int} (h : Pl w v n r l) (hg : ∀ i, i < n → r i = r' i ∧ l i = l' i) : Pl w v n r' l' := by
  obtain ⟨a, c, rfl, h1, h2, h3⟩ := h
  rcases h3 with h3 | ⟨b, o, rfl, h4, h5⟩
  · exact ⟨a, c, rfl, h1, h2, .inl h3⟩
  · refine ⟨_, c, rfl, h1, h2, .inr ⟨b, o, rfl, h4, fun i hi => ?_⟩⟩
    rw [← (hg i hi).1, ← (hg i hi).2]; exact h5 i hi
namespace Sc

/-- behind k places: how many pairs; the run; the pairs. -/
structure RS where
  c : Nat
  run : Int
  r : Nat → Int
  l : Nat → Int
def ruS (f : Nat → Int) (first : Nat) : Nat → RS
  | 0 => ⟨0, 0, fun _ => 0, fun _ => 0⟩
  | k + 1 => if f (at' (first + k)) = 0 then ⟨(ruS f first k).c, (ruS f first k).run + 1, (ruS f first k).r, (ruS f first k).l⟩
    else ⟨(ruS f first k).c + 1, 0, fun i => if i = (ruS f first k).c then (ruS f first k).run else (ruS f first k).r i, fun i => if i = (ruS f first k).c then f (at' (first + k)) else (ruS f first k).l i⟩
theorem ruS_zero {f : Nat → Int} {first k : Nat} (h : f (at' (first + k)) = 0) :
    (ruS f first (k + 1)).c = (ruS f first k).c ∧ (ruS f first (k + 1)).run = (ruS f first k).run + 1 ∧ (ruS f first (k + 1)).r = (ruS f first k).r ∧ (ruS f first (k + 1)).l = (ruS f first k).l := by
  rw [ruS, if_pos h]; exact ⟨rfl, rfl, rfl, rfl⟩
theorem ruS_some {f : Nat → Int} {first k : Nat} (h : f (at' (first + k)) ≠ 0) :
    (ruS f first (k + 1)).c = (ruS f first k).c + 1 ∧ (ruS f first (k + 1)).run = 0 ∧ (ruS f first (k + 1)).r = (fun i => if i = (ruS f first k).c then (ruS f first k).run else (ruS f first k).r i)
      ∧ (ruS f first (k + 1)).l = fun i => if i = (ruS f first k).c then f (at' (first + k)) else (ruS f first k).l i := by
  rw [ruS, if_neg h]; exact ⟨rfl, rfl, rfl, rfl⟩
theorem ruS_bd (f : Nat → Int) (first : Nat) : ∀ k, (ruS f first k).c ≤ k ∧ 0 ≤ (ruS f first k).run ∧ (ruS f first k).run ≤ k
  | 0 => by simp [ruS]
  | k + 1 => by
    obtain ⟨h1, h2, h3⟩ := ruS_bd f first k
    by_cases h : f (at' (first + k)) = 0
    · obtain ⟨e1, e2, _, _⟩ := ruS_zero h
      rw [e1, e2]; omega
    · obtain ⟨e1, e2, _, _⟩ := ruS_some h
      rw [e1, e2]; omega
/-- the cells of the pairs, behind k places. -/
def ruCells (f : Nat → Int) (first k : Nat) : List Value := pcs (ruS f first k).r (ruS f first k).l (ruS f first k).c
theorem ruCells_zero {f : Nat → Int} {first k : Nat} (h : f (at' (first + k)) = 0) : ruCells f first (k + 1) = ruCells f first k := by
  obtain ⟨e1, _, e3, e4⟩ := ruS_zero h
  unfold ruCells; rw [e1, e3, e4]
theorem ruCells_some {f : Nat → Int} {first k : Nat} (h : f (at' (first + k)) ≠ 0) : ruCells f first (k + 1) = ruCells f first k ++ [.int .i64 (ruS f first k).run, .int .i64 (f (at' (first + k)))] := by
  obtain ⟨e1, _, e3, e4⟩ := ruS_some h
  unfold ruCells; rw [e1, e3, e4, pcs]
  rw [pcs_congr (r' := (ruS f first k).r) (l' := (ruS f first k).l) _ (fun i hi => by simp only [if_neg (show i ≠ (ruS f first k).c by omega)]; exact ⟨trivial, trivial⟩)]
  simp
/-- may the first k numbers all be levels? -/
def okV (f : Nat → Int) (k : Nat) : Bool := (List.range k).all fun i => lvl (f i)
theorem okV_succ (f : Nat → Int) (k : Nat) : okV f (k + 1) = (okV f k && lvl (f k)) := by unfold okV; rw [List.range_succ]; simp
theorem okV_at {f : Nat → Int} {k : Nat} (h : okV f k = true) (i : Nat) (hi : i < k) : lvl (f i) = true := by
  unfold okV at h; rw [List.all_eq_true] at h; exact h i (List.mem_range.2 hi)
theorem okV_not {f : Nat → Int} {k i : Nat} (hi : i < k) (h : lvl (f i) = false) : okV f k = false := by
  cases e : okV f k
  · rfl
  · rw [okV_at e i hi] at h; cases h
/-- the error of Runs, and how many pairs it tells. -/
def rE (first : Int) (n : Nat) (f : Nat → Int) : Int := if first = 0 ∨ first = 1 then (if n ≠ 64 ∨ (first = 1 ∧ f 0 ≠ 0) then 2 else if okV f 64 then 0 else 10) else 3
def rN (first : Int) (n : Nat) (f : Nat → Int) : Nat := if rE first n f = 0 then (ruS f first.toNat (64 - first.toNat)).c else 0
def rR (first : Int) (f : Nat → Int) : Nat → Int := (ruS f first.toNat (64 - first.toNat)).r
def rL (first : Int) (f : Nat → Int) : Nat → Int := (ruS f first.toNat (64 - first.toNat)).l
/-- what Runs comes to. -/
def RunsTo (w : World) (first : Int) (n : Nat) (f : Nat → Int) (e : Ending) (w' : World) : Prop :=
  ∃ v, e = .returned (.tuple #[v, .int .i64 (rE first n f)]) ∧ RPl w.heap.size w' v (rN first n f) (rR first f) (rL first f) ∧ Below w.heap.size w w'
theorem runsTo_no {w w' : World} {first : Int} {n : Nat} {f : Nat → Int} {x : Int} (h : rE first n f = x) (hx : x ≠ 0) (hB : Below w.heap.size w w') : RunsTo w first n f (.returned (.tuple #[.slice none 0 0, .int .i64 x])) w' :=
  ⟨_, by rw [h], .inl ⟨by unfold rN; rw [if_neg (by rw [h]; exact hx)], rfl⟩, hB⟩
theorem runsTo_yes {w w' : World} {first : Nat} {n : Nat} {f : Nat → Int} {v : Value} {e : TypeId} {B : Nat} (h : rE first n f = 0) (hb : w.heap.size ≤ B) (hown : w'.ownsRow B e 2 v (ruS f first (64 - first)).c (ruCells f first (64 - first))) (hB : Below w.heap.size w w') :
    RunsTo w first n f (.returned (.tuple #[v, .int .i64 0])) w' := by
  refine ⟨_, by rw [h], ?_, hB⟩
  have e0 : rN first n f = (ruS f first (64 - first)).c := by unfold rN; rw [if_pos h]; rfl
  rw [e0]
  exact (RPl.of_own hown).mono hb
end Sc
end Go.Proofs.YtbmglemjfodfhaaGreat
