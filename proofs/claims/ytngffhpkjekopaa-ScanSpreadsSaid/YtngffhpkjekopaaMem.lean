/- Rows of integers in memory: what is read of a slice that came in, and rows of the call's own. -/
import Derived.Test.YtngffhpkjekopaaKit
import Derived.Deep.LoopGhost
import Derived.Maps.AppendAt
namespace Go.Proofs.Ytngffhpkjekopaa
open Go.RowKit
set_option linter.unusedSimpArgs false
set_option linter.unusedVariables false

/-- n cells of a block from o on, and the numbers in them. -/
def Ints (w : World) (k : IntKind) (b o n : Nat) (f : Nat → Int) : Prop := ∀ i, i < n → w.cell? ⟨b, o + i, none⟩ = some (.int k (f i))
/-- the first n cells of a block, the numbers in them; they may be written. -/
def Arr (w : World) (k : IntKind) (b n : Nat) (f : Nat → Int) : Prop := ∀ i, i < n → w.cell? ⟨b, i, none⟩ = some (.int k (f i)) ∧ w.frozen? ⟨b, i, none⟩ = false
/-- a slice value that reads as n numbers. -/
def Sl (k : IntKind) (w : World) (v : Value) (n : Nat) (f : Nat → Int) : Prop :=
  ∃ a c, v = .slice a n c ∧ n ≤ c ∧ c ≤ maxLen ∧ ((n = 0 ∧ (a = none → c = 0)) ∨ ∃ b o, a = some ⟨b, o, none⟩ ∧ b < w.heap.size ∧ Ints w k b o n f)
/-- a slice of the call's own: nil, if it is empty; else a row in a block from B on. -/
def Res (k : IntKind) (B : Nat) (w : World) (v : Value) (n : Nat) (f : Nat → Int) : Prop :=
  (n = 0 ∧ v = .slice none 0 0) ∨ ∃ g c, v = .slice (some ⟨g, 0, none⟩) n c ∧ B ≤ g ∧ g < w.heap.size ∧ n ≤ c ∧ c ≤ maxLen ∧ Arr w k g n f

theorem frozen_of_row {w : World} {b : Nat} {cs : Array Value} {t : TypeId} (h : w.heap[b]? = some (.cells cs t (0, 0))) (i : Nat) : w.frozen? ⟨b, i, none⟩ = false := by
  simp only [World.frozen?]
  rw [h]
  simp
section
variable {w w' : World} {k : IntKind} {b o n B : Nat} {f g : Nat → Int} {v : Value}
theorem Ints.below (h : Ints w k b o n f) (hw : Below B w w') (hb : b < B) : Ints w' k b o n f :=
  fun i hi => (hw.cell (p := ⟨b, o + i, none⟩) hb).trans (h i hi)
theorem Ints.at (h : Ints w k b o n f) (i : Nat) (hi : i < n) : w.cell? ⟨b, o + i, none⟩ = some (.int k (f i)) := h i hi
theorem Arr.below (h : Arr w k b n f) (hw : Below B w w') (hb : b < B) : Arr w' k b n f :=
  fun i hi => ⟨(hw.cell (p := ⟨b, i, none⟩) hb).trans (h i hi).1, (hw.frozen (p := ⟨b, i, none⟩) hb).trans (h i hi).2⟩
theorem Arr.ints (h : Arr w k b n f) : Ints w k b 0 n f := fun i hi => by rw [Nat.zero_add]; exact (h i hi).1
theorem Arr.congr (h : Arr w k b n f) (hg : ∀ i, i < n → f i = g i) : Arr w k b n g := fun i hi => by rw [← hg i hi]; exact h i hi
theorem Ints.congr (h : Ints w k b o n f) (hg : ∀ i, i < n → f i = g i) : Ints w k b o n g := fun i hi => by rw [← hg i hi]; exact h i hi
theorem Arr.lt (h : Arr w k b n f) (hn : 0 < n) : b < w.heap.size := World.block_lt_of_cell? w _ (h 0 hn).1
theorem Ints.lt (h : Ints w k b o n f) (hn : 0 < n) : b < w.heap.size := World.block_lt_of_cell? w _ (h 0 hn)
theorem Arr.drew (h : Arr w k b n f) : Arr w.drew k b n f := h
theorem Arr.drewN (h : Arr w k b n f) (m : Nat) : Arr (w.drewN m) k b n f := h
theorem Ints.drewN (h : Ints w k b o n f) (m : Nat) : Ints (w.drewN m) k b o n f := h
theorem Arr.alloc (h : Arr w k b n f) (ob : Obj) : Arr (w.alloc ob) k b n f := by
  intro i hi
  have hb := h.lt (by omega)
  exact (h.below ((Below.refl w.heap.size w).alloc (Nat.le_refl _) ob) hb) i hi
theorem Ints.alloc (h : Ints w k b o n f) (ob : Obj) : Ints (w.alloc ob) k b o n f := by
  intro i hi
  have hb := h.lt (by omega)
  exact (h.below ((Below.refl w.heap.size w).alloc (Nat.le_refl _) ob) hb) i hi
theorem Arr.far (h : Arr w k b n f) {a : Addr} (ha : a.block ≠ b) (u : Value) : Arr (w.setCell a u) k b n f := by
  intro i hi
  have e := Below.heap_setCell w a u b (Ne.symm ha)
  exact ⟨(World.cell?_of_block (a := ⟨b, i, none⟩) e).trans (h i hi).1, (World.frozen?_of_block (a := ⟨b, i, none⟩) e).trans (h i hi).2⟩
theorem Ints.far (h : Ints w k b o n f) {a : Addr} (ha : a.block ≠ b) (u : Value) : Ints (w.setCell a u) k b o n f := by
  intro i hi
  exact (World.cell?_of_block (a := ⟨b, o + i, none⟩) (Below.heap_setCell w a u b (Ne.symm ha))).trans (h i hi)
theorem Arr.grown {row : Option Nat} (h : Arr w k b n f) (hg : w.grownBy w' row) (hr : some b ≠ row) : Arr w' k b n f := by
  intro i hi
  have e := hg.block b (h.lt (by omega)) hr
  exact ⟨(World.cell?_of_block (a := ⟨b, i, none⟩) e).trans (h i hi).1, (World.frozen?_of_block (a := ⟨b, i, none⟩) e).trans (h i hi).2⟩
theorem Ints.grown {row : Option Nat} (h : Ints w k b o n f) (hg : w.grownBy w' row) (hr : some b ≠ row) : Ints w' k b o n f := by
  intro i hi
  exact (World.cell?_of_block (a := ⟨b, o + i, none⟩) (hg.block b (h.lt (by omega)) hr)).trans (h i hi)
/-- a store into the row: that number is the new one. -/
theorem Arr.set (h : Arr w k b n f) (j : Nat) (x : Int) : Arr (w.setCell ⟨b, j, none⟩ (.int k x)) k b n (fun i => if i = j then x else f i) := by
  intro i hi
  have hc := h i hi
  refine ⟨?_, by rw [World.frozen?_setCell]; exact hc.2⟩
  by_cases e : i = j
  · subst e
    simp only [if_true]
    exact World.cell?_setCell_same' _ _ _ (by rw [hc.1]; rfl)
  · simp only [if_neg e]
    rw [World.cell?_setCell_other]
    · exact hc.1
    · intro q; cases q; exact e rfl
/-- the row filled up to j: j's number put in place. -/
theorem Arr.fill {m : Nat} (h : Arr w k b n (fun i => if i < m then g i else f i)) (x : Int) (hx : x = g m) :
    Arr (w.setCell ⟨b, m, none⟩ (.int k x)) k b n (fun i => if i < m + 1 then g i else f i) := by
  refine (h.set m x).congr fun i hi => ?_
  by_cases e : i = m
  · subst e
    rw [if_pos rfl, if_pos (by omega), hx]
  · rw [if_neg e]
    by_cases l : i < m
    · rw [if_pos l, if_pos (by omega)]
    · rw [if_neg l, if_neg (by omega)]
theorem Arr.filled (h : Arr w k b n (fun i => if i < n then g i else f i)) : Arr w k b n g := h.congr fun i hi => by simp only [if_pos hi]
theorem Arr.start (h : Arr w k b n f) : Arr w k b n (fun i => if i < 0 then g i else f i) := h.congr fun i hi => by simp
/-- a new block whose cells are all one number. -/
theorem Arr.new (w : World) (k : IntKind) (cs : Array Value) (t : TypeId) (n : Nat) (f : Nat → Int) (hc : ∀ i, i < n → cs[i]? = some (.int k (f i))) :
    Arr (w.alloc (.cells cs t)) k w.heap.size n f := by
  intro i hi
  have hb := heap_alloc_new w (.cells cs t)
  exact ⟨by rw [cell_of_row _ _ i cs t (0, 0) hb]; exact hc i hi, frozen_of_row hb i⟩
theorem Arr.of_own {e : TypeId} (h : w.ownsRow B e 1 v n ((List.range n).map fun i => .int k (f i))) (hn : 0 < n) :
    ∃ g c, v = .slice (some ⟨g, 0, none⟩) n c ∧ B ≤ g ∧ g < w.heap.size ∧ n ≤ c ∧ c ≤ maxLen ∧ Arr w k g n f := by
  have hc := fun g => World.ownsRow.cells h (g := g)
  rcases h.2 with ⟨_, h0⟩ | ⟨g, cap, cur, rfl, hb, hg, h1, h2, h3, h4⟩
  · omega
  · refine ⟨g, cap, rfl, hb, (Array.getElem?_eq_some_iff.1 hg).1, h1, h2, fun i hi => ⟨?_, frozen_of_row hg i⟩⟩
    have := hc g rfl i (.int k (f i)) (by simp [hi])
    rw [show (⟨g, 0, none⟩ : Addr).add i = ⟨g, i, none⟩ by unfold Addr.add; split <;> simp_all] at this
    exact this
theorem Arr.of_own' {e : TypeId} (h : w.ownsRow B e 1 v n ((List.range n).map fun i => .int k (f i))) (hn : v ≠ .slice none 0 0) :
    ∃ g c, v = .slice (some ⟨g, 0, none⟩) n c ∧ B ≤ g ∧ g < w.heap.size ∧ n ≤ c ∧ c ≤ maxLen ∧ Arr w k g n f := by
  have hc := fun g => World.ownsRow.cells h (g := g)
  rcases h.2 with ⟨h0, _⟩ | ⟨g, cap, cur, rfl, hb, hg, h1, h2, h3, h4⟩
  · exact absurd h0 hn
  · refine ⟨g, cap, rfl, hb, (Array.getElem?_eq_some_iff.1 hg).1, h1, h2, fun i hi => ⟨?_, frozen_of_row hg i⟩⟩
    have := hc g rfl i (.int k (f i)) (by simp [hi])
    rw [show (⟨g, 0, none⟩ : Addr).add i = ⟨g, i, none⟩ by unfold Addr.add; split <;> simp_all] at this
    exact this
theorem Res.of_own {e : TypeId} (h : w.ownsRow B e 1 v n ((List.range n).map fun i => .int k (f i))) : Res k B w v n f := by
  rcases h.2 with ⟨h0, h1⟩ | _
  · exact .inl ⟨h1, h0⟩
  · by_cases hv : v = .slice none 0 0
    · rcases h.2 with ⟨h0, h1⟩ | ⟨g, cap, cur, h0, _⟩
      · exact .inl ⟨h1, h0⟩
      · rw [h0] at hv; cases hv
    · exact .inr (Arr.of_own' h hv)
theorem range_snoc (n : Nat) (h : Nat → Value) : (List.range n).map h ++ [h n] = (List.range (n + 1)).map h := by
  rw [List.range_succ]; simp
theorem Res.sl (h : Res k B w v n f) : Sl k w v n f := by
  rcases h with ⟨h0, rfl⟩ | ⟨g, c, rfl, h1, h2, h3, h4, h5⟩
  · subst h0; exact ⟨none, 0, rfl, Nat.le_refl _, Nat.zero_le _, .inl ⟨rfl, fun _ => rfl⟩⟩
  · exact ⟨_, c, rfl, h3, h4, .inr ⟨g, 0, rfl, h2, h5.ints⟩⟩
theorem Res.below (h : Res k B w v n f) (hw : Below w.heap.size w w') : Res k B w' v n f := by
  rcases h with h | ⟨g, c, rfl, h1, h2, h3, h4, h5⟩
  · exact .inl h
  · exact .inr ⟨g, c, rfl, h1, Nat.lt_of_lt_of_le h2 hw.size, h3, h4, h5.below hw h2⟩
theorem Res.own (h : Res k B w v n f) : ∀ g, v.ownBlock = some g → B ≤ g ∧ g < w.heap.size := by
  intro q hq
  rcases h with ⟨_, rfl⟩ | ⟨g, c, rfl, h1, h2, _⟩
  · cases hq
  · cases hq; exact ⟨h1, h2⟩
theorem Res.grown {row : Option Nat} (h : Res k B w v n f) (hg : w.grownBy w' row) (hr : ∀ g, row = some g → v.ownBlock ≠ some g) : Res k B w' v n f := by
  rcases h with h | ⟨g, c, rfl, h1, h2, h3, h4, h5⟩
  · exact .inl h
  · exact .inr ⟨g, c, rfl, h1, Nat.lt_of_lt_of_le h2 hg.size, h3, h4, h5.grown hg (fun e => hr g e.symm rfl)⟩
theorem Sl.below (h : Sl k w v n f) (hw : Below w.heap.size w w') : Sl k w' v n f := by
  obtain ⟨a, c, rfl, h1, h2, h3⟩ := h
  rcases h3 with h3 | ⟨b, o, rfl, h4, h5⟩
  · exact ⟨a, c, rfl, h1, h2, .inl h3⟩
  · exact ⟨_, c, rfl, h1, h2, .inr ⟨b, o, rfl, Nat.lt_of_lt_of_le h4 hw.size, h5.below hw h4⟩⟩
theorem Sl.congr (h : Sl k w v n f) (hg : ∀ i, i < n → f i = g i) : Sl k w v n g := by
  obtain ⟨a, c, rfl, h1, h2, h3⟩ := h
  rcases h3 with h3 | ⟨b, o, rfl, h4, h5⟩
  · exact ⟨a, c, rfl, h1, h2, .inl h3⟩
  · exact ⟨_, c, rfl, h1, h2, .inr ⟨b, o, rfl, h4, h5.congr hg⟩⟩
end
theorem grown_of_below {a w : World} (h : Below a.heap.size a w) (row : Option Nat) : a.grownBy w row := ⟨h.os, h.tape, h.output, h.size, fun i hi _ => h.block i hi⟩
theorem grown_trans {a b c : World} {row : Option Nat} (h : a.grownBy b row) (k : b.grownBy c row) : a.grownBy c row :=
  ⟨k.os.trans h.os, k.tape.trans h.tape, k.output.trans h.output, Nat.le_trans h.size k.size, fun i hi hne => (k.block i (Nat.lt_of_lt_of_le hi h.size) hne).trans (h.block i hi hne)⟩
theorem grown_set {a w : World} {g : Nat} (h : a.grownBy w (some g)) (o : Nat) (u : Value) : a.grownBy (w.setCell ⟨g, o, none⟩ u) (some g) :=
  ⟨h.os, h.tape, h.output, by simpa [World.setCell] using h.size, fun i hi hne => (Below.heap_setCell w ⟨g, o, none⟩ u i (fun e => hne (by rw [e]))).trans (h.block i hi hne)⟩
theorem grown_cell {a w : World} {row : Option Nat} (h : a.grownBy w row) {q o : Nat} {v : Value} (hq : some q ≠ row) (hc : a.cell? ⟨q, o, none⟩ = some v) : w.cell? ⟨q, o, none⟩ = some v :=
  h.cell (a := ⟨q, o, none⟩) hc hq
/-- the worlds behind W in which all that W holds lies as it lay. -/
structure Past (W : World) where
  now : World
  kept : Below W.heap.size W now
instance past_nonempty (W : World) : Nonempty (Past W) := ⟨⟨W, Below.refl _ _⟩⟩
/-- A REGION THAT DRAWS ITS ORDER, whose operations only read what W holds, and whose calls leave it alone: one walk of the text's order serves every order. -/
theorem wp_region_past {P : Program} {id : Nat} {Q : Exit → Act → World → Prop} {a : Act} {W : World} {l : List Oper} (hm : P.follows .mixedOrders = true) (hB : Region.lexB .any l.toArray = true)
    (h : wpQuiet P l.toArray (fun w' => ∃ x : Past W, w' = x.now) (fun a' => ∀ w', (∃ x : Past W, w' = x.now) → Q .normal a' w') l a) : (Code.region id l.toArray true).wp P Q a W :=
  wp_region_quiet (C := fun w' => ∃ x : Past W, w' = x.now) hm hB ⟨⟨_, (Below.refl W.heap.size W).drew⟩, rfl⟩ (by simpa using h)
theorem past_call {P : Program} {f : FuncId} {args : Array Value} {W : World} {x : Past W} {v : Value} (h : Calls P f args x.now fun e w' => e = .returned v ∧ Below x.now.heap.size x.now w') :
    Calls P f args x.now fun e w'' => e = .returned v ∧ ∃ y : Past W, w'' = y.now :=
  h.mono fun _ _ ⟨he, hb⟩ => ⟨he, ⟨⟨_, x.kept.trans (hb.mono x.kept.size)⟩, rfl⟩⟩
theorem Past.cell {W : World} {b o : Nat} {v : Value} (h : W.cell? ⟨b, o, none⟩ = some v) (x : Past W) : x.now.cell? ⟨b, o, none⟩ = some v :=
  (x.kept.cell (p := ⟨b, o, none⟩) (World.block_lt_of_cell? W _ h)).trans h
theorem IsRow.sl {k : IntKind} {w : World} {a : Option Addr} {len cap : Nat} {zs : List Int} (h : IsRow k w a len cap zs) :
    Sl k w (.slice a len cap) len (fun i => zs.getD i 0) ∧ ∀ i, i < len → (Lit.int k (zs.getD i 0)).wf = true := by
  rcases h with ⟨rfl, rfl, rfl, rfl⟩ | ⟨⟨b, o, sp⟩, rfl, hl, hm, hz, hc, hw⟩
  · exact ⟨⟨none, 0, rfl, Nat.le_refl _, Nat.zero_le _, .inl ⟨rfl, fun _ => rfl⟩⟩, fun i hi => by omega⟩
  · refine ⟨⟨_, cap, rfl, hl, hm, ?_⟩, fun i hi => hw _ (by rw [List.getD_eq_getElem?_getD, List.getElem?_eq_getElem (by omega)]; exact List.getElem_mem _)⟩
    by_cases h0 : len = 0
    · exact .inl ⟨h0, fun h => by cases h⟩
    · have h1 := hc 0 (by omega)
      have hsp : sp = none := by simpa [Addr.add] using World.cell?_spot h1
      subst hsp
      refine .inr ⟨b, o, rfl, World.block_lt_of_cell? w _ h1, fun i hi => ?_⟩
      have := hc i (by omega)
      rw [show (⟨b, o, none⟩ : Addr).add i = ⟨b, o + i, none⟩ by unfold Addr.add; split <;> simp_all] at this
      exact this
end Go.Proofs.Ytngffhpkjekopaa
