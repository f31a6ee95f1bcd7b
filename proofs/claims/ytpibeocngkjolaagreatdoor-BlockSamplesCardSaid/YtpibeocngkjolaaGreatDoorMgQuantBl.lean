/- Rows of integers in memory: what is read of a slice that came in, and rows of the call's own. | The lists that statements share: held side by side, written over, copied. | Which level is nearest: quant.Nearest, its closure, and the document's. | The document's Nearest comes to the same. | What the levels of a block are worth: quant.Inter, quant.Intra, and the document's. -/
import Derived.Test.YtpibeocngkjolaaGreatDoorMgPick
import Derived.Test.YtpibeocngkjolaaGreatDoorMgQuant
import Derived.Deep.LoopGhost
import Derived.Maps.AppendAt
set_option linter.unusedVariables false
set_option linter.unusedSimpArgs false

namespace Go.Proofs.YtpibeocngkjolaaGreatDoor
open Go.RowKit
set_option linter.unusedSimpArgs false
set_option linter.unusedVariables false

/-- n cells of a block from o on, and the numbers in them. -/
def Ints (w : World) (k : IntKind) (b o n : Nat) (f : Nat → Int) : Prop := ∀ i, i < n → w.cell? ⟨b, o + i, none⟩ = some (.int k (f i))
/-- the first n cells of a block, the numbers in them; they may be written. -/
def Arr (w : World) (k : IntKind) (b n : Nat) (f : Nat → Int) : Prop := ∀ i, i < n → w.cell? ⟨b, i, none⟩ = some (.int k (f i)) ∧ w.frozen? ⟨b, i, none⟩ = false
/-- a slice value that reads as n numbers. -/
def Sl (k : IntKind) (w : World) (v : Value) (n : Nat) (f : Nat → Int) : Prop :=
  ∃ a c, v = .slice a n c ∧ n ≤ c ∧ c ≤ maxLen ∧ ((n = 0 ∧ (a = none → c = 0)) ∨ ∃ b o, a = some ⟨b, o, none⟩ ∧ b < w.heap.size ∧ Ints w k b o n f)
/-- a slice of the call's own: nil, if it is empty; else a row in a block from B on. -/
def Res (k : IntKind) (B : Nat) (w : World) (v : Value) (n : Nat) (f : Nat → Int) : Prop :=
  (n = 0 ∧ v = .slice none 0 0) ∨ ∃ g c, v = .slice (some ⟨g, 0, none⟩) n c ∧ B ≤ g ∧ g < w.heap.size ∧ n ≤ c ∧ c ≤ maxLen ∧ Arr w k g n f

theorem frozen_of_row {w : World} {b : Nat} {cs : Array Value} {t : TypeId} (h : w.heap[b]? = some (.cells cs t (0, 0))) (i : Nat) : w.frozen? ⟨b, i, none⟩ = false := by
  simp only [World.frozen?]
  rw [h]
  simp
section
variable {w w' : World} {k : IntKind} {b o n B : Nat} {f g : Nat → Int} {v : Value}
theorem Ints.below (h : Ints w k b o n f) (hw : Below B w w') (hb : b < B) : Ints w' k b o n f :=
  fun i hi => (hw.cell (p := ⟨b, o + i, none⟩) hb).trans (h i hi)
theorem Ints.at (h : Ints w k b o n f) (i : Nat) (hi : i < n) : w.cell? ⟨b, o + i, none⟩ = some (.int k (f i)) := h i hi
theorem Arr.below (h : Arr w k b n f) (hw : Below B w w') (hb : b < B) : Arr w' k b n f :=
  fun i hi => ⟨(hw.cell (p := ⟨b, i, none⟩) hb).trans (h i hi).1, (hw.frozen (p := ⟨b, i, none⟩) hb).trans (h i hi).2⟩
theorem Arr.ints (h : Arr w k b n f) : Ints w k b 0 n f := fun i hi => by rw [Nat.zero_add]; exact (h i hi).1
theorem Arr.congr (h : Arr w k b n f) (hg : ∀ i, i < n → f i = g i) : Arr w k b n g := fun i hi => by rw [← hg i hi]; exact h i hi
theorem Ints.congr (h : Ints w k b o n f) (hg : ∀ i, i < n → f i = g i) : Ints w k b o n g := fun i hi => by rw [← hg i hi]; exact h i hi
theorem Arr.lt (h : Arr w k b n f) (hn : 0 < n) : b < w.heap.size := World.block_lt_of_cell? w _ (h 0 hn).1
theorem Ints.lt (h : Ints w k b o n f) (hn : 0 < n) : b < w.heap.size := World.block_lt_of_cell? w _ (h 0 hn)
theorem Arr.drew (h : Arr w k b n f) : Arr w.drew k b n f := h
theorem Arr.drewN (h : Arr w k b n f) (m : Nat) : Arr (w.drewN m) k b n f := h
theorem Ints.drewN (h : Ints w k b o n f) (m : Nat) : Ints (w.drewN m) k b o n f := h
theorem Arr.alloc (h : Arr w k b n f) (ob : Obj) : Arr (w.alloc ob) k b n f := by
  intro i hi
  have hb := h.lt (by omega)
  exact (h.below ((Below.refl w.heap.size w).alloc (Nat.le_refl _) ob) hb) i hi
theorem Ints.alloc (h : Ints w k b o n f) (ob : Obj) : Ints (w.alloc ob) k b o n f := by
  intro i hi
  have hb := h.lt (by omega)
  exact (h.below ((Below.refl w.heap.size w).alloc (Nat.le_refl _) ob) hb) i hi
theorem Arr.far (h : Arr w k b n f) {a : Addr} (ha : a.block ≠ b) (u : Value) : Arr (w.setCell a u) k b n f := by
  intro i hi
  have e := Below.heap_setCell w a u b (Ne.symm ha)
  exact ⟨(World.cell?_of_block (a := ⟨b, i, none⟩) e).trans (h i hi).1, (World.frozen?_of_block (a := ⟨b, i, none⟩) e).trans (h i hi).2⟩
theorem Ints.far (h : Ints w k b o n f) {a : Addr} (ha : a.block ≠ b) (u : Value) : Ints (w.setCell a u) k b o n f := by
  intro i hi
  exact (World.cell?_of_block (a := ⟨b, o + i, none⟩) (Below.heap_setCell w a u b (Ne.symm ha))).trans (h i hi)
theorem Arr.grown {row : Option Nat} (h : Arr w k b n f) (hg : w.grownBy w' row) (hr : some b ≠ row) : Arr w' k b n f := by
  intro i hi
  have e := hg.block b (h.lt (by omega)) hr
  exact ⟨(World.cell?_of_block (a := ⟨b, i, none⟩) e).trans (h i hi).1, (World.frozen?_of_block (a := ⟨b, i, none⟩) e).trans (h i hi).2⟩
theorem Ints.grown {row : Option Nat} (h : Ints w k b o n f) (hg : w.grownBy w' row) (hr : some b ≠ row) : Ints w' k b o n f := by
  intro i hi
  exact (World.cell?_of_block (a := ⟨b, o + i, none⟩) (hg.block b (h.lt (by omega)) hr)).trans (h i hi)
/-- a store into the row: that number is the new one. -/
theorem Arr.set (h : Arr w k b n f) (j : Nat) (x : Int) : Arr (w.setCell ⟨b, j, none⟩ (.int k x)) k b n (fun i => if i = j then x else f i) := by
  intro i hi
  have hc := h i hi
  refine ⟨?_, by rw [World.frozen?_setCell]; exact hc.2⟩
  by_cases e : i = j
  · subst e
    simp only [if_true]
    exact World.cell?_setCell_same' _ _ _ (by rw [hc.1]; rfl)
  · simp only [if_neg e]
    rw [World.cell?_setCell_other]
    · exact hc.1
    · intro q; cases q; exact e rfl
/-- the row filled up to j: j's number put in place. -/
theorem Arr.fill {m : Nat} (h : Arr w k b n (fun i => if i < m then g i else f i)) (x : Int) (hx : x = g m) :
    Arr (w.setCell ⟨b, m, none⟩ (.int k x)) k b n (fun i => if i < m + 1 then g i else f i) := by
  refine (h.set m x).congr fun i hi => ?_
  by_cases e : i = m
  · subst e
    rw [if_pos rfl, if_pos (by omega), hx]
  · rw [if_neg e]
    by_cases l : i < m
    · rw [if_pos l, if_pos (by omega)]
    · rw [if_neg l, if_neg (by omega)]
theorem Arr.filled (h : Arr w k b n (fun i => if i < n then g i else f i)) : Arr w k b n g := h.congr fun i hi => by simp only [if_pos hi]
theorem Arr.start (h : Arr w k b n f) : Arr w k b n (fun i => if i < 0 then g i else f i) := h.congr fun i hi => by simp
/-- a new block whose cells are all one number. -/
theorem Arr.new (w : World) (k : IntKind) (cs : Array Value) (t : TypeId) (n : Nat) (f : Nat → Int) (hc : ∀ i, i < n → cs[i]? = some (.int k (f i))) :
    Arr (w.alloc (.cells cs t)) k w.heap.size n f := by
  intro i hi
  have hb := heap_alloc_new w (.cells cs t)
  exact ⟨by rw [cell_of_row _ _ i cs t (0, 0) hb]; exact hc i hi, frozen_of_row hb i⟩
theorem Arr.of_own {e : TypeId} (h : w.ownsRow B e 1 v n ((List.range n).map fun i => .int k (f i))) (hn : 0 < n) :
    ∃ g c, v = .slice (some ⟨g, 0, none⟩) n c ∧ B ≤ g ∧ g < w.heap.size ∧ n ≤ c ∧ c ≤ maxLen ∧ Arr w k g n f := by
  have hc := fun g => World.ownsRow.cells h (g := g)
  rcases h.2 with ⟨_, h0⟩ | ⟨g, cap, cur, rfl, hb, hg, h1, h2, h3, h4⟩
  · omega
  · refine ⟨g, cap, rfl, hb, (Array.getElem?_eq_some_iff.1 hg).1, h1, h2, fun i hi => ⟨?_, frozen_of_row hg i⟩⟩
    have := hc g rfl i (.int k (f i)) (by simp [hi])
    rw [show (⟨g, 0, none⟩ : Addr).add i = ⟨g, i, none⟩ by unfold Addr.add; split <;> simp_all] at this
    exact this
theorem Arr.of_own' {e : TypeId} (h : w.ownsRow B e 1 v n ((List.range n).map fun i => .int k (f i))) (hn : v ≠ .slice none 0 0) :
    ∃ g c, v = .slice (some ⟨g, 0, none⟩) n c ∧ B ≤ g ∧ g < w.heap.size ∧ n ≤ c ∧ c ≤ maxLen ∧ Arr w k g n f := by
  have hc := fun g => World.ownsRow.cells h (g := g)
  rcases h.2 with ⟨h0, _⟩ | ⟨g, cap, cur, rfl, hb, hg, h1, h2, h3, h4⟩
  · exact absurd h0 hn
  · refine ⟨g, cap, rfl, hb, (Array.getElem?_eq_some_iff.1 hg).1, h1, h2, fun i hi => ⟨?_, frozen_of_row hg i⟩⟩
    have := hc g rfl i (.int k (f i)) (by simp [hi])
    rw [show (⟨g, 0, none⟩ : Addr).add i = ⟨g, i, none⟩ by unfold Addr.add; split <;> simp_all] at this
    exact this
theorem Res.of_own {e : TypeId} (h : w.ownsRow B e 1 v n ((List.range n).map fun i => .int k (f i))) : Res k B w v n f := by
  rcases h.2 with ⟨h0, h1⟩ | _
  · exact .inl ⟨h1, h0⟩
  · by_cases hv : v = .slice none 0 0
    · rcases h.2 with ⟨h0, h1⟩ | ⟨g, cap, cur, h0, _⟩
      · exact .inl ⟨h1, h0⟩
      · rw [h0] at hv; cases hv
    · exact .inr (Arr.of_own' h hv)
theorem range_snoc (n : Nat) (h : Nat → Value) : (List.range n).map h ++ [h n] = (List.range (n + 1)).map h := by
  rw [List.range_succ]; simp
theorem Res.sl (h : Res k B w v n f) : Sl k w v n f := by
  rcases h with ⟨h0, rfl⟩ | ⟨g, c, rfl, h1, h2, h3, h4, h5⟩
  · subst h0; exact ⟨none, 0, rfl, Nat.le_refl _, Nat.zero_le _, .inl ⟨rfl, fun _ => rfl⟩⟩
  · exact ⟨_, c, rfl, h3, h4, .inr ⟨g, 0, rfl, h2, h5.ints⟩⟩
theorem Res.below (h : Res k B w v n f) (hw : Below w.heap.size w w') : Res k B w' v n f := by
  rcases h with h | ⟨g, c, rfl, h1, h2, h3, h4, h5⟩
  · exact .inl h
  · exact .inr ⟨g, c, rfl, h1, Nat.lt_of_lt_of_le h2 hw.size, h3, h4, h5.below hw h2⟩
theorem Res.own (h : Res k B w v n f) : ∀ g, v.ownBlock = some g → B ≤ g ∧ g < w.heap.size := by
  intro q hq
  rcases h with ⟨_, rfl⟩ | ⟨g, c, rfl, h1, h2, _⟩
  · cases hq
  · cases hq; exact ⟨h1, h2⟩
theorem Res.grown {row : Option Nat} (h : Res k B w v n f) (hg : w.grownBy w' row) (hr : ∀ g, row = some g → v.ownBlock ≠ some g) : Res k B w' v n f := by
  rcases h with h | ⟨g, c, rfl, h1, h2, h3, h4, h5⟩
  · exact .inl h
  · exact .inr ⟨g, c, rfl, h1, Nat.lt_of_lt_of_le h2 hg.size, h3, h4, h5.grown hg (fun e => hr g e.symm rfl)⟩
theorem Sl.below (h : Sl k w v n f) (hw : Below w.heap.size w w') : Sl k w' v n f := by
  obtain ⟨a, c, rfl, h1, h2, h3⟩ := h
  rcases h3 with h3 | ⟨b, o, rfl, h4, h5⟩
  · exact ⟨a, c, rfl, h1, h2, .inl h3⟩
  · exact ⟨_, c, rfl, h1, h2, .inr ⟨b, o, rfl, Nat.lt_of_lt_of_le h4 hw.size, h5.below hw h4⟩⟩
theorem Sl.congr (h : Sl k w v n f) (hg : ∀ i, i < n → f i = g i) : Sl k w v n g := by
  obtain ⟨a, c, rfl, h1, h2, h3⟩ := h
  rcases h3 with h3 | ⟨b, o, rfl, h4, h5⟩
  · exact ⟨a, c, rfl, h1, h2, .inl h3⟩
  · exact ⟨_, c, rfl, h1, h2, .inr ⟨b, o, rfl, h4, h5.congr hg⟩⟩
end
theorem grown_of_below {a w : World} (h : Below a.heap.size a w) (row : Option Nat) : a.grownBy w row := ⟨h.os, h.tape, h.output, h.size, fun i hi _ => h.block i hi⟩
theorem grown_trans {a b c : World} {row : Option Nat} (h : a.grownBy b row) (k : b.grownBy c row) : a.grownBy c row :=
  ⟨k.os.trans h.os, k.tape.trans h.tape, k.output.trans h.output, Nat.le_trans h.size k.size, fun i hi hne => (k.block i (Nat.lt_of_lt_of_le hi h.size) hne).trans (h.block i hi hne)⟩
theorem grown_set {a w : World} {g : Nat} (h : a.grownBy w (some g)) (o : Nat) (u : Value) : a.grownBy (w.setCell ⟨g, o, none⟩ u) (some g) :=
  ⟨h.os, h.tape, h.output, by simpa [World.setCell] using h.size, fun i hi hne => (Below.heap_setCell w ⟨g, o, none⟩ u i (fun e => hne (by rw [e]))).trans (h.block i hi hne)⟩
theorem grown_cell {a w : World} {row : Option Nat} (h : a.grownBy w row) {q o : Nat} {v : Value} (hq : some q ≠ row) (hc : a.cell? ⟨q, o, none⟩ = some v) : w.cell? ⟨q, o, none⟩ = some v :=
  h.cell (a := ⟨q, o, none⟩) hc hq
/-- the worlds behind W in which all that W holds lies as it lay. -/
structure Past (W : World) where
  now : World
  kept : Below W.heap.size W now
instance past_nonempty (W : World) : Nonempty (Past W) := ⟨⟨W, Below.refl _ _⟩⟩
/-- A REGION THAT DRAWS ITS ORDER, whose operations only read what W holds, and whose calls leave it alone: one walk of the text's order serves every order. -/
theorem wp_region_past {P : Program} {id : Nat} {Q : Exit → Act → World → Prop} {a : Act} {W : World} {l : List Oper} (hm : P.follows .mixedOrders = true) (hB : Region.lexB .any l.toArray = true)
    (h : wpQuiet P l.toArray (fun w' => ∃ x : Past W, w' = x.now) (fun a' => ∀ w', (∃ x : Past W, w' = x.now) → Q .normal a' w') l a) : (Code.region id l.toArray true).wp P Q a W :=
  wp_region_quiet (C := fun w' => ∃ x : Past W, w' = x.now) hm hB ⟨⟨_, (Below.refl W.heap.size W).drew⟩, rfl⟩ (by simpa using h)
theorem past_call {P : Program} {f : FuncId} {args : Array Value} {W : World} {x : Past W} {v : Value} (h : Calls P f args x.now fun e w' => e = .returned v ∧ Below x.now.heap.size x.now w') :
    Calls P f args x.now fun e w'' => e = .returned v ∧ ∃ y : Past W, w'' = y.now :=
  h.mono fun _ _ ⟨he, hb⟩ => ⟨he, ⟨⟨_, x.kept.trans (hb.mono x.kept.size)⟩, rfl⟩⟩
theorem Past.cell {W : World} {b o : Nat} {v : Value} (h : W.cell? ⟨b, o, none⟩ = some v) (x : Past W) : x.now.cell? ⟨b, o, none⟩ = some v :=
  (x.kept.cell (p := ⟨b, o, none⟩) (World.block_lt_of_cell? W _ h)).trans h
theorem IsRow.sl {k : IntKind} {w : World} {a : Option Addr} {len cap : Nat} {zs : List Int} (h : IsRow k w a len cap zs) :
    Sl k w (.slice a len cap) len (fun i => zs.getD i 0) ∧ ∀ i, i < len → (Lit.int k (zs.getD i 0)).wf = true := by
  rcases h with ⟨rfl, rfl, rfl, rfl⟩ | ⟨⟨b, o, sp⟩, rfl, hl, hm, hz, hc, hw⟩
  · exact ⟨⟨none, 0, rfl, Nat.le_refl _, Nat.zero_le _, .inl ⟨rfl, fun _ => rfl⟩⟩, fun i hi => by omega⟩
  · refine ⟨⟨_, cap, rfl, hl, hm, ?_⟩, fun i hi => hw _ (by rw [List.getD_eq_getElem?_getD, List.getElem?_eq_getElem (by omega)]; exact List.getElem_mem _)⟩
    by_cases h0 : len = 0
    · exact .inl ⟨h0, fun h => by cases h⟩
    · have h1 := hc 0 (by omega)
      have hsp : sp = none := by simpa [Addr.add] using World.cell?_spot h1
      subst hsp
      refine .inr ⟨b, o, rfl, World.block_lt_of_cell? w _ h1, fun i hi => ?_⟩
      have := hc i (by omega)
      rw [show (⟨b, o, none⟩ : Addr).add i = ⟨b, o + i, none⟩ by unfold Addr.add; split <;> simp_all] at this
      exact this
end Go.Proofs.YtpibeocngkjolaaGreatDoor

namespace Go.Proofs.YtpibeocngkjolaaGreatDoor
open Go.RowKit
set_option linter.unusedSimpArgs false
set_option linter.unusedVariables false

set_option maxRecDepth 100000 in
/-- two lists of the same numbers are the same. -/
theorem SameInts_row (b1 o1 c1 b2 o2 c2 n : Nat) (f : Nat → Int) (w : World) (hn : n ≤ 1000000) (h1 : Ints w .i64 b1 o1 n f) (h2 : Ints w .i64 b2 o2 n f) :
    Calls Tryz.prog 22 #[.slice (some ⟨b1, o1, none⟩) n c1, .slice (some ⟨b2, o2, none⟩) n c2] w fun e w' => e = .returned (.bool true) ∧ Below w.heap.size w w' := by
  have H1 := Lib.hid h1
  have H2 := Lib.hid h2
  clear h1 h2
  go_enter Tryz.func22, Tryz.ntmps22
  go_wp2
  go_loopw [5] (fun i wr => ∃ k : Nat, k ≤ n ∧ i = .int .i64 k ∧ ∃ m, wr = w.drewN m) (fun i _ => n - (intOf i).toNat)
  case atStart => exact ⟨0, by omega, rfl, 0, rfl⟩
  case round =>
    obtain ⟨k, hk, rfl, m, rfl⟩ := hrel
    by_cases hkn : k < n
    · have e1 := H1.out k hkn
      have e2 := H2.out k hkn
      have b1 : (0 : Int) ≤ (k : Int) ∧ (k : Int) < (n : Int) := by omega
      go_wp2_with fail
      go_quiet (fail)
      go_wp2
      go_roundw
      case rel => exact ⟨k + 1, by omega, by go_num, _, rfl⟩
      case measure => simp [intOf]; omega
    · go_wp2
      go_ret
      exact ⟨rfl, below_drewN (Below.refl _ _) _⟩

theorem SameInts_nil (a1 a2 : Option Addr) (c1 c2 : Nat) (w : World) :
    Calls Tryz.prog 22 #[.slice a1 0 c1, .slice a2 0 c2] w fun e w' => e = .returned (.bool true) ∧ Below w.heap.size w w' := by
  go_enter Tryz.func22, Tryz.ntmps22
  go_wp2
  refine wp_loop_rounds 1 ?_
  rw [rounds_succ]
  go_wp2
  go_ret
  exact ⟨rfl, Below.refl _ _⟩
theorem SameInts_true (v1 v2 : Value) (n : Nat) (f g : Nat → Int) (w : World) (hn : n ≤ 1000000) (h1 : Sl .i64 w v1 n f) (h2 : Sl .i64 w v2 n g) (hfg : ∀ i, i < n → f i = g i) :
    Calls Tryz.prog 22 #[v1, v2] w fun e w' => e = .returned (.bool true) ∧ Below w.heap.size w w' := by
  obtain ⟨a1, c1, rfl, _, _, d1⟩ := h1
  obtain ⟨a2, c2, rfl, _, _, d2⟩ := h2
  rcases d1 with ⟨rfl, _⟩ | ⟨b1, o1, rfl, _, i1⟩
  · exact SameInts_nil _ _ _ _ _
  · rcases d2 with ⟨rfl, _⟩ | ⟨b2, o2, rfl, _, i2⟩
    · exact SameInts_nil _ _ _ _ _
    · exact SameInts_row _ _ _ _ _ _ _ _ _ hn i1 (i2.congr fun i hi => (hfg i hi).symm)

set_option maxRecDepth 100000 in
/-- a row of the call's own written over: nothing else has turned. -/
theorem OverInts_row (g n c : Nat) (f : Nat → Int) (w : World) (hn : n ≤ 1000000) (h : Arr w .i64 g n f) :
    Calls Tryz.prog 25 #[.slice (some ⟨g, 0, none⟩) n c] w fun e w' => e = .returned (.tuple #[]) ∧ w.grownBy w' (some g) := by
  have H := Lib.hid h
  clear h
  go_enter Tryz.func25, Tryz.ntmps25
  go_wp2
  go_loopw [2] (fun i wr => ∃ k : Nat, k ≤ n ∧ i = .int .i64 k ∧ (∃ f', Arr wr .i64 g n f') ∧ w.grownBy wr (some g)) (fun i _ => n - (intOf i).toNat)
  case atStart => exact ⟨0, by omega, rfl, ⟨f, H.out⟩, World.grownBy.refl _ _⟩
  case round =>
    obtain ⟨k, hk, rfl, ⟨f', hA⟩, hG⟩ := hrel
    by_cases hkn : k < n
    · have e1 := hA k hkn
      have HA := Lib.hid hA
      have HG := Lib.hid hG
      clear hA hG
      go_wp2
      go_roundw
      case rel => exact ⟨k + 1, by omega, by go_num, ⟨_, HA.out.set k _⟩, grown_set HG.out _ _⟩
      case measure => simp [intOf]; omega
    · go_wp2
      go_end0
      exact ⟨rfl, hG⟩
theorem OverInts_nil (w : World) :
    Calls Tryz.prog 25 #[.slice none 0 0] w fun e w' => e = .returned (.tuple #[]) ∧ w = w' := by
  go_enter Tryz.func25, Tryz.ntmps25
  go_wp2
  refine wp_loop_rounds 1 ?_
  rw [rounds_succ]
  go_wp2
  go_end0
  exact ⟨rfl, rfl⟩
/-- a list of the call's own written over: what lay below its first block is as it was. -/
theorem OverInts_any (v : Value) (n B : Nat) (f : Nat → Int) (w : World) (hn : n ≤ 1000000) (h : Res .i64 B w v n f) :
    Calls Tryz.prog 25 #[v] w fun e w' => e = .returned (.tuple #[]) ∧ w.grownBy w' v.ownBlock := by
  rcases h with ⟨rfl, rfl⟩ | ⟨g, c, rfl, _, _, _, _, hA⟩
  · exact (OverInts_nil w).mono fun e w' ⟨he, hw⟩ => ⟨he, by subst hw; exact World.grownBy.refl _ _⟩
  · exact OverInts_row g n c f w hn hA

theorem info_int : (Tryz.prog.info? 3).map (fun i => (i.zero, i.size, i.bytes)) = some (some (.int .i64 0), 1, 8) := by kernel_rfl
theorem news_ints {w : World} {k : IntKind} {b o n : Nat} {f : Nat → Int} (h : Ints w k b o n f) : ∀ j u, ((List.range n).map fun i => Value.int k (f i))[j]? = some u → w.cell? ((⟨b, o, none⟩ : Addr).add j) = some u := by
  intro j u hu
  have hj : j < n := by
    have := (List.getElem?_eq_some_iff.1 hu).1
    simpa using this
  rw [Addr.add_lit, h j hj]
  simpa [hj] using hu
theorem one_cells (k : IntKind) (n : Nat) (f : Nat → Int) : ∀ u ∈ (List.range n).map (fun i => Value.int k (f i)), u.oneCell' = true := by
  intro u hu
  obtain ⟨i, _, rfl⟩ := List.mem_map.1 hu
  rfl
/-- a copy of a list: a row of the call's own. -/
def Copied (k : IntKind) (w : World) (n : Nat) (f : Nat → Int) (e : Ending) (w' : World) : Prop :=
  ∃ g c, e = .returned (.slice (some ⟨g, 0, none⟩) n c) ∧ w.heap.size ≤ g ∧ g < w'.heap.size ∧ n ≤ c ∧ c ≤ maxLen ∧ Arr w' k g n f ∧ Below w.heap.size w w'
end Go.Proofs.YtpibeocngkjolaaGreatDoor

namespace Go.Proofs.YtpibeocngkjolaaGreatDoor
open Go.RowKit
namespace Qu

theorem nearOk_yes {t q : Int} (h : nearOkB t q = true) : (-2048 ≤ t ∧ t ≤ 2047) ∧ 1 ≤ q ∧ q ≤ 31 := by
  unfold nearOkB at h; simp only [decide_eq_true_eq] at h; omega
theorem nearOk_no {t q : Int} (h : nearOkB t q = false) : t < -2048 ∨ 2047 < t ∨ (-2048 ≤ t ∧ t ≤ 2047 ∧ q < 1) ∨ (-2048 ≤ t ∧ t ≤ 2047 ∧ 31 < q) := by
  unfold nearOkB at h; simp only [decide_eq_false_iff_not] at h; omega

theorem within_yes (n a b : Int) (w : World) (h1 : a ≤ n) (h2 : n ≤ b) :
    Calls Tryz.prog 98 #[.int .i64 n, .int .i64 a, .int .i64 b] w fun e w' => e = .returned (.bool true) ∧ w = w' := by
  have _d2 : decide (n ≤ b) = true := by simp; omega
  go_enter Tryz.func98, Tryz.ntmps98
  go_wp2
  go_ret
  exact ⟨rfl, rfl⟩

theorem best_succ (t q : Int) (m : Nat) : best t q (m + 1) = step t q (step t q (best t q m) (m + 1)) (-((m : Int) + 1)) := rfl
theorem step_yes {t q b l : Int} (h : far t q l < far t q b) : step t q b l = l := if_pos h
theorem step_no {t q b l : Int} (h : ¬ far t q l < far t q b) : step t q b l = b := if_neg h

end Qu
end Go.Proofs.YtpibeocngkjolaaGreatDoor

namespace Go.Proofs.YtpibeocngkjolaaGreatDoor
open Go.RowKit
namespace Qu

theorem okB_mk {l q : Int} (h1 : -127 ≤ l) (h2 : l ≤ 127) (h3 : 1 ≤ q) (h4 : q ≤ 31) : okB l q = true := by unfold okB; simp only [decide_eq_true_eq]; omega
theorem far_if (t q l : Int) : (if val l q - t < t - val l q then t - val l q else val l q - t) = far t q l := by unfold far; omega
theorem bestR_succ (t q : Int) (m : Nat) : bestR t q (m + 1) = step t q (step t q (bestR t q m) (-((m : Int) + 1))) (m + 1) := rfl
theorem quantiser_yes (n : Int) (w : World) (h1 : 1 ≤ n) (h2 : n ≤ 31) :
    Calls Tryz.prog 105 #[.int .i64 n] w fun e w' => e = .returned (.bool true) ∧ w = w' := by
  have _d2 : decide (n ≤ 31) = true := by simp; omega
  go_enter Tryz.func105, Tryz.ntmps105
  go_wp2
  go_ret
  exact ⟨rfl, rfl⟩

end Qu
end Go.Proofs.YtpibeocngkjolaaGreatDoor

namespace Go.Proofs.YtpibeocngkjolaaGreatDoor
open Go.RowKit
namespace Qu

/-- may the first k numbers all be levels? -/
def okAll (f : Nat → Int) (q : Int) (k : Nat) : Bool := (List.range k).all fun i => okB (f i) q
theorem okAll_succ (f : Nat → Int) (q : Int) (k : Nat) : okAll f q (k + 1) = (okAll f q k && okB (f k) q) := by unfold okAll; rw [List.range_succ]; simp
theorem okAll_at {f : Nat → Int} {q : Int} {k : Nat} (h : okAll f q k = true) (i : Nat) (hi : i < k) : okB (f i) q = true := by
  unfold okAll at h; rw [List.all_eq_true] at h; exact h i (List.mem_range.2 hi)
theorem okAll_not {f : Nat → Int} {q : Int} {k i : Nat} (hi : i < k) (h : okB (f i) q = false) : okAll f q k = false := by
  cases e : okAll f q k
  · rfl
  · rw [okAll_at e i hi] at h; cases h
/-- the error of Inter, and how many numbers it tells. -/
def iE (n : Nat) (f : Nat → Int) (q : Int) : Int := if n = 64 then (if okAll f q 64 then 0 else 3) else 2
def iN (n : Nat) (f : Nat → Int) (q : Int) : Nat := if n = 64 then (if okAll f q 64 then 64 else 0) else 0

/-- what Inter comes to. -/
def Inters (w : World) (n : Nat) (f : Nat → Int) (q : Int) (e : Ending) (w' : World) : Prop :=
  ∃ v, e = .returned (.tuple #[v, .int .i64 (iE n f q)]) ∧ Res .i64 w.heap.size w' v (iN n f q) (fun i => val (f i) q) ∧ Below w.heap.size w w'

theorem inter_long (a : Option Addr) (n c : Nat) (f : Nat → Int) (q : Int) (w : World) (h : n ≠ 64) :
    Calls Tryz.prog 55 #[.slice a n c, .int .i64 q] w (Inters w n f q) := by
  have e1 : iE n f q = 2 := by unfold iE; rw [if_neg h]
  have e2 : iN n f q = 0 := by unfold iN; rw [if_neg h]
  have k : ((n : Int) == 64) = false := by simp; omega
  have E1 := Lib.hid e1
  have E2 := Lib.hid e2
  clear e1 e2
  go_enter Tryz.func55, Tryz.ntmps55
  go_wp2
  go_ret2
  exact ⟨.slice none 0 0, by rw [E1.out]; rfl, by rw [E2.out]; exact .inl ⟨rfl, rfl⟩, Below.refl _ _⟩

set_option maxRecDepth 100000 in
set_option maxHeartbeats 1000000 in
theorem inter_row (b o c : Nat) (f : Nat → Int) (q : Int) (w : World) (h : Ints w .i64 b o 64 f) :
    Calls Tryz.prog 55 #[.slice (some ⟨b, o, none⟩) 64 c, .int .i64 q] w (Inters w 64 f q) := by
  obtain ⟨i0, hi, hz0, hz1, hz2⟩ := info_parts info_int
  have hblt := h.lt (by omega)
  have H := Lib.hid h
  have HE : Hid (iE 64 f q = if okAll f q 64 then 0 else 3) := by show _ = _; unfold iE; rw [if_pos rfl]
  have HN : Hid (iN 64 f q = if okAll f q 64 then 64 else 0) := by show _ = _; unfold iN; rw [if_pos rfl]
  clear h
  go_enter Tryz.func55, Tryz.ntmps55
  go_wp2
  go_loopw [6, 16] (fun v i wr => ∃ k : Nat, k ≤ 64 ∧ i = .int .i64 k ∧ wr.ownsRow w.heap.size 3 1 v k ((List.range k).map fun i => .int .i64 (val (f i) q)) ∧ okAll f q k = true ∧ Below w.heap.size w wr)
    (fun _ i _ => 64 - (intOf i).toNat)
  case atStart => exact ⟨0, by omega, by go_num, World.ownsRow_nil _ _ _ _, rfl, Below.refl _ _⟩
  case round =>
    obtain ⟨k, hk, rfl, hown, hok, hB⟩ := hrel
    by_cases hk64 : k < 64
    · have ck := (H.out.below hB hblt).at k hk64
      have kb : (0 : Int) ≤ (k : Int) ∧ (k : Int) < 64 := by omega
      have OK := Lib.hid hok
      have HB := Lib.hid hB
      clear hok hB
      cases hkk : okB (f k) q
      · have KK := Lib.hid hkk
        clear hkk
        go_wp2_with (go_at_call 79; refine (value_no _ _ _ KK.out).mono ?_; rintro e w1 ⟨rfl, hw⟩)
        go_ret2
        have ea := okAll_not hk64 KK.out
        exact ⟨.slice none 0 0, by rw [HE.out, ea]; rfl, by rw [HN.out, ea]; exact .inl ⟨rfl, rfl⟩, HB.out.trans (hw.mono HB.out.size)⟩
      · have KK := Lib.hid hkk
        clear hkk
        go_wp2_with (first
          | (go_at_call 79; refine (value_yes _ _ _ KK.out).mono ?_; rintro e w1 ⟨rfl, hw⟩; have hown1 := hown.kept (grown_of_below hw none) (by cases hv : Value.ownBlock u6 <;> simp))
          | (at_builtin; go_loud (refine wpList_append_own _ rfl _ _ 38 rfl w.heap.size 3 i0 (.int .i64 0) 1 8 Tryz.underlying38 hi hz0 hz1 hz2 rfl (by decide) _ _ _ rfl (hown1.alloc _) ⟨w1.heap.size, 0, none⟩ 1 1 [.int .i64 (val (f k) q)] rfl rfl (cell_one_new _ _ _) (by simp [Value.oneCell']) (by unfold maxLen; omega) (by omega) (by have := HB.out.size; have := hw.size; simp; omega) ?_); intro v' w2 hown2 hgr hnil))
        have hBn : Below w.heap.size w w2 := ((HB.out.trans (hw.mono HB.out.size)).alloc (Nat.le_trans HB.out.size hw.size) (.cells #[.int .i64 (val (f k) q)] 3)).grown hgr (by have := HB.out.size; have := hw.size; simp; omega) (fun j hj => (hown1.lt j hj).1)
        have hown3 : w2.ownsRow w.heap.size 3 1 v' (k + 1) ((List.range (k + 1)).map fun i => .int .i64 (val (f i) q)) := by rw [← range_snoc]; exact hown2
        clear hown2 hgr hnil
        go_roundw
        case rel => exact ⟨k + 1, by omega, by go_num, hown3, by rw [okAll_succ, OK.out, KK.out]; rfl, hBn⟩
        case measure => simp [intOf]; omega
    · have e64 : k = 64 := by omega
      have hr : Res .i64 w.heap.size wr u6 (iN 64 f q) (fun i => val (f i) q) := by
        subst e64
        rw [HN.out, hok]
        exact Res.of_own hown
      have he : iE 64 f q = 0 := by
        subst e64
        rw [HE.out, hok]
        rfl
      have hk' : 64 ≤ k := by omega
      have HR := Lib.hid hr
      have HE' := Lib.hid he
      have HB := Lib.hid hB
      clear e64 hr he hB hown hok hk hk64
      go_wp2
      go_ret2
      exact ⟨u6, by rw [HE'.out]; rfl, HR.out, HB.out⟩

theorem Inter_any (v : Value) (n : Nat) (f : Nat → Int) (q : Int) (w : World) (hs : Sl .i64 w v n f) :
    Calls Tryz.prog 55 #[v, .int .i64 q] w (Inters w n f q) := by
  obtain ⟨a, c, rfl, h1, h2, h3⟩ := hs
  by_cases h : n = 64
  · subst h
    rcases h3 with ⟨h3, _⟩ | ⟨b, o, rfl, _, h4⟩
    · omega
    · exact inter_row b o c f q w h4
  · exact inter_long a n c f q w h

theorem rvalue_no_b (l q : Int) (w : World) (h : okB l q = false) :
    Calls Tryz.prog 82 #[.int .i64 l, .int .i64 q] w fun e w' => e = .returned (.tuple #[.int .i64 0, .int .i64 3]) ∧ Below w.heap.size w w' :=
  (rvalue_no l q w h).mono fun _ _ ⟨he, hw⟩ => ⟨he, by subst hw; exact Below.refl _ _⟩
theorem rvalue_yes_b (l q : Int) (w : World) (h : okB l q = true) :
    Calls Tryz.prog 82 #[.int .i64 l, .int .i64 q] w fun e w' => e = .returned (.tuple #[.int .i64 (val l q), .int .i64 0]) ∧ Below w.heap.size w w' :=
  (rvalue_yes l q w h).mono fun _ _ ⟨he, hw⟩ => ⟨he, by subst hw; exact Below.refl _ _⟩

theorem rinter_long (a : Option Addr) (n c : Nat) (f : Nat → Int) (q : Int) (w : World) (h : n ≠ 64) :
    Calls Tryz.prog 57 #[.slice a n c, .int .i64 q] w (Inters w n f q) := by
  have e1 : iE n f q = 2 := by unfold iE; rw [if_neg h]
  have e2 : iN n f q = 0 := by unfold iN; rw [if_neg h]
  have k : ((n : Int) == 64) = false := by simp; omega
  have E1 := Lib.hid e1
  have E2 := Lib.hid e2
  clear e1 e2
  go_enter Tryz.func57, Tryz.ntmps57
  go_wp2
  go_ret2
  exact ⟨.slice none 0 0, by rw [E1.out]; rfl, by rw [E2.out]; exact .inl ⟨rfl, rfl⟩, Below.refl _ _⟩

set_option maxRecDepth 100000 in
set_option maxHeartbeats 1000000 in
theorem rinter_row (b o c : Nat) (f : Nat → Int) (q : Int) (w : World) (h : Ints w .i64 b o 64 f) :
    Calls Tryz.prog 57 #[.slice (some ⟨b, o, none⟩) 64 c, .int .i64 q] w (Inters w 64 f q) := by
  obtain ⟨i0, hi, hz0, hz1, hz2⟩ := info_parts info_int
  have hblt := h.lt (by omega)
  have H := Lib.hid h
  have HE : Hid (iE 64 f q = if okAll f q 64 then 0 else 3) := by show _ = _; unfold iE; rw [if_pos rfl]
  have HN : Hid (iN 64 f q = if okAll f q 64 then 64 else 0) := by show _ = _; unfold iN; rw [if_pos rfl]
  clear h
  go_enter Tryz.func57, Tryz.ntmps57
  go_wp2
  go_loopw [6, 7] (fun v i wr => ∃ k : Nat, k ≤ 64 ∧ i = .int .i64 k ∧ wr.ownsRow w.heap.size 3 1 v k ((List.range k).map fun i => .int .i64 (val (f i) q)) ∧ okAll f q k = true ∧ Below w.heap.size w wr)
    (fun _ i _ => 64 - (intOf i).toNat)
  case atStart => exact ⟨0, by omega, by go_num, World.ownsRow_nil _ _ _ _, rfl, Below.refl _ _⟩
  case round =>
    obtain ⟨k, hk, rfl, hown, hok, hB⟩ := hrel
    by_cases hk64 : k < 64
    · have ck := (H.out.below hB hblt).at k hk64
      have kb : (0 : Int) ≤ (k : Int) ∧ (k : Int) < 64 := by omega
      have OK := Lib.hid hok
      have HB := Lib.hid hB
      clear hok hB
      cases hkk : okB (f k) q
      · have KK := Lib.hid hkk
        clear hkk
        go_wp2_with (go_at_call 82; refine (rvalue_no_b _ _ _ KK.out).mono ?_; rintro e w1 ⟨rfl, hw⟩)
        go_ret2
        have ea := okAll_not hk64 KK.out
        exact ⟨.slice none 0 0, by rw [HE.out, ea]; rfl, by rw [HN.out, ea]; exact .inl ⟨rfl, rfl⟩, HB.out.trans (hw.mono HB.out.size)⟩
      · have KK := Lib.hid hkk
        clear hkk
        go_wp2_with (first
          | (go_at_call 82; refine (rvalue_yes_b _ _ _ KK.out).mono ?_; rintro e w1 ⟨rfl, hw⟩; have hown1 := hown.kept (grown_of_below hw none) (by cases hv : Value.ownBlock u6 <;> simp))
          | (at_builtin; go_loud (refine wpList_append_own _ rfl _ _ 38 rfl w.heap.size 3 i0 (.int .i64 0) 1 8 Tryz.underlying38 hi hz0 hz1 hz2 rfl (by decide) _ _ _ rfl (hown1.alloc _) ⟨w1.heap.size, 0, none⟩ 1 1 [.int .i64 (val (f k) q)] rfl rfl (cell_one_new _ _ _) (by simp [Value.oneCell']) (by unfold maxLen; omega) (by omega) (by have := HB.out.size; have := hw.size; simp; omega) ?_); intro v' w2 hown2 hgr hnil))
        have hBn : Below w.heap.size w w2 := ((HB.out.trans (hw.mono HB.out.size)).alloc (Nat.le_trans HB.out.size hw.size) (.cells #[.int .i64 (val (f k) q)] 3)).grown hgr (by have := HB.out.size; have := hw.size; simp; omega) (fun j hj => (hown1.lt j hj).1)
        have hown3 : w2.ownsRow w.heap.size 3 1 v' (k + 1) ((List.range (k + 1)).map fun i => .int .i64 (val (f i) q)) := by rw [← range_snoc]; exact hown2
        clear hown2 hgr hnil
        go_roundw
        case rel => exact ⟨k + 1, by omega, by go_num, hown3, by rw [okAll_succ, OK.out, KK.out]; rfl, hBn⟩
        case measure => simp [intOf]; omega
    · have e64 : k = 64 := by omega
      have hr : Res .i64 w.heap.size wr u6 (iN 64 f q) (fun i => val (f i) q) := by
        subst e64
        rw [HN.out, hok]
        exact Res.of_own hown
      have he : iE 64 f q = 0 := by
        subst e64
        rw [HE.out, hok]
        rfl
      have hk' : 64 ≤ k := by omega
      have HR := Lib.hid hr
      have HE' := Lib.hid he
      have HB := Lib.hid hB
      clear e64 hr he hB hown hok hk hk64
      go_wp2
      go_ret2
      exact ⟨u6, by rw [HE'.out]; rfl, HR.out, HB.out⟩

theorem rInter_any (v : Value) (n : Nat) (f : Nat → Int) (q : Int) (w : World) (hs : Sl .i64 w v n f) :
    Calls Tryz.prog 57 #[v, .int .i64 q] w (Inters w n f q) := by
  obtain ⟨a, c, rfl, h1, h2, h3⟩ := hs
  by_cases h : n = 64
  · subst h
    rcases h3 with ⟨h3, _⟩ | ⟨b, o, rfl, _, h4⟩
    · omega
    · exact rinter_row b o c f q w h4
  · exact rinter_long a n c f q w h

theorem iE_cases (n : Nat) (f : Nat → Int) (q : Int) : (iE n f q = 0 ∧ iN n f q = 64) ∨ (iE n f q ≠ 0 ∧ iN n f q = 0) := by
  unfold iE iN
  by_cases h : n = 64
  · rw [if_pos h, if_pos h]
    cases okAll f q 64 <;> simp
  · rw [if_neg h, if_neg h]; simp
/-- the error of Intra, how many numbers it tells, and which. -/
def aE (n : Nat) (f : Nat → Int) (q c : Int) : Int := if iE n f q = 0 then dcE c else iE n f q
def aN (n : Nat) (f : Nat → Int) (q c : Int) : Nat := if iE n f q = 0 ∧ dcE c = 0 then 64 else 0
def aV (f : Nat → Int) (q c : Int) (i : Nat) : Int := if i = 0 then dcV c else val (f i) q
/-- what Intra comes to. -/
def Intras (w : World) (n : Nat) (f : Nat → Int) (q c : Int) (e : Ending) (w' : World) : Prop :=
  ∃ v, e = .returned (.tuple #[v, .int .i64 (aE n f q c)]) ∧ Res .i64 w.heap.size w' v (aN n f q c) (aV f q c) ∧ Below w.heap.size w w'

set_option maxRecDepth 100000 in
theorem Intra_any (v : Value) (n : Nat) (f : Nat → Int) (q c : Int) (w : World) (hs : Sl .i64 w v n f) :
    Calls Tryz.prog 54 #[v, .int .i64 q, .int .i64 c] w (Intras w n f q c) := by
  have HS := Lib.hid hs
  clear hs
  rcases iE_cases n f q with ⟨h1, h2⟩ | ⟨h1, h2⟩
  · by_cases h3 : dcE c = 0
    · have e1 : aE n f q c = 0 := by unfold aE; rw [if_pos h1, h3]
      have e2 : aN n f q c = 64 := by unfold aN; rw [if_pos ⟨h1, h3⟩]
      have E1 := Lib.hid e1
      have E2 := Lib.hid e2
      have H1 := Lib.hid h1
      have H2 := Lib.hid h2
      clear e1 e2 h1 h2
      go_enter Tryz.func54, Tryz.ntmps54
      go_wp2_with (first
        | (go_at_call 55; refine (Inter_any _ _ _ _ _ HS.out).mono ?_; rintro e w1 ⟨v1, rfl, hR, hB⟩; rw [H1.out]; rw [H2.out] at hR; rcases hR with ⟨h0, _⟩ | ⟨g, c1, rfl, r1, r2, r3, r4, r5⟩; (exact absurd h0 (by decide)); have q0 := r5 0 (by decide); have R5 := Lib.hid r5; have HB := Lib.hid hB; clear r5 hB)
        | (go_at_call 78; refine (DC_any _ _).mono ?_; rintro e w2 ⟨rfl, rfl⟩))
      go_ret2
      refine ⟨_, by rw [E1.out]; rfl, .inr ⟨g, c1, by rw [E2.out]; rfl, r1, by simpa [World.setCell] using r2, by rw [E2.out]; exact r3, r4, ?_⟩, HB.out.setCell r1 _⟩
      rw [E2.out]
      exact (R5.out.set 0 (dcV c))
    · have e1 : aE n f q c = dcE c := by unfold aE; rw [if_pos h1]
      have e2 : aN n f q c = 0 := by unfold aN; rw [if_neg (fun h => h3 h.2)]
      have k3 : (dcE c == 0) = false := by simp; exact h3
      have E1 := Lib.hid e1
      have E2 := Lib.hid e2
      have H1 := Lib.hid h1
      have H2 := Lib.hid h2
      clear e1 e2 h1 h2 h3
      go_enter Tryz.func54, Tryz.ntmps54
      go_wp2_with (first
        | (go_at_call 55; refine (Inter_any _ _ _ _ _ HS.out).mono ?_; rintro e w1 ⟨v1, rfl, hR, hB⟩; rw [H1.out]; rw [H2.out] at hR; rcases hR with ⟨h0, _⟩ | ⟨g, c1, rfl, r1, r2, r3, r4, r5⟩; (exact absurd h0 (by decide)); have q0 := r5 0 (by decide); have R5 := Lib.hid r5; have HB := Lib.hid hB; clear r5 hB)
        | (go_at_call 78; refine (DC_any _ _).mono ?_; rintro e w2 ⟨rfl, rfl⟩))
      go_ret2
      exact ⟨.slice none 0 0, by rw [E1.out]; rfl, by rw [E2.out]; exact .inl ⟨rfl, rfl⟩, HB.out.setCell r1 _⟩
  · have e1 : aE n f q c = iE n f q := by unfold aE; rw [if_neg h1]
    have e2 : aN n f q c = 0 := by unfold aN; rw [if_neg (fun h => h1 h.1)]
    have k1 : (iE n f q == 0) = false := by simp; exact h1
    have E1 := Lib.hid e1
    have E2 := Lib.hid e2
    have H2 := Lib.hid h2
    clear e1 e2 h1 h2
    go_enter Tryz.func54, Tryz.ntmps54
    go_wp2_with (go_at_call 55; refine (Inter_any _ _ _ _ _ HS.out).mono ?_; rintro e w1 ⟨v1, rfl, hR, hB⟩; have HB := Lib.hid hB; clear hB hR)
    go_ret2
    exact ⟨.slice none 0 0, by rw [E1.out]; rfl, by rw [E2.out]; exact .inl ⟨rfl, rfl⟩, HB.out⟩

set_option maxRecDepth 100000 in
theorem rIntra_any (v : Value) (n : Nat) (f : Nat → Int) (q c : Int) (w : World) (hs : Sl .i64 w v n f) :
    Calls Tryz.prog 58 #[v, .int .i64 q, .int .i64 c] w (Intras w n f q c) := by
  have HS := Lib.hid hs
  clear hs
  rcases iE_cases n f q with ⟨h1, h2⟩ | ⟨h1, h2⟩
  · by_cases h3 : dcE c = 0
    · have e1 : aE n f q c = 0 := by unfold aE; rw [if_pos h1, h3]
      have e2 : aN n f q c = 64 := by unfold aN; rw [if_pos ⟨h1, h3⟩]
      have E1 := Lib.hid e1
      have E2 := Lib.hid e2
      have H1 := Lib.hid h1
      have H2 := Lib.hid h2
      clear e1 e2 h1 h2
      go_enter Tryz.func58, Tryz.ntmps58
      go_wp2_with (first
        | (go_at_call 57; refine (rInter_any _ _ _ _ _ HS.out).mono ?_; rintro e w1 ⟨v1, rfl, hR, hB⟩; rw [H1.out]; rw [H2.out] at hR; rcases hR with ⟨h0, _⟩ | ⟨g, c1, rfl, r1, r2, r3, r4, r5⟩; (exact absurd h0 (by decide)); have q0 := r5 0 (by decide); have R5 := Lib.hid r5; have HB := Lib.hid hB; clear r5 hB)
        | (go_at_call 83; refine (rDC_any _ _).mono ?_; rintro e w2 ⟨rfl, rfl⟩))
      go_ret2
      refine ⟨_, by rw [E1.out]; rfl, .inr ⟨g, c1, by rw [E2.out]; rfl, r1, by simpa [World.setCell] using r2, by rw [E2.out]; exact r3, r4, ?_⟩, HB.out.setCell r1 _⟩
      rw [E2.out]
      exact (R5.out.set 0 (dcV c))
    · have e1 : aE n f q c = dcE c := by unfold aE; rw [if_pos h1]
      have e2 : aN n f q c = 0 := by unfold aN; rw [if_neg (fun h => h3 h.2)]
      have k3 : (dcE c == 0) = false := by simp; exact h3
      have E1 := Lib.hid e1
      have E2 := Lib.hid e2
      have H1 := Lib.hid h1
      have H2 := Lib.hid h2
      clear e1 e2 h1 h2 h3
      go_enter Tryz.func58, Tryz.ntmps58
      go_wp2_with (first
        | (go_at_call 57; refine (rInter_any _ _ _ _ _ HS.out).mono ?_; rintro e w1 ⟨v1, rfl, hR, hB⟩; rw [H1.out]; rw [H2.out] at hR; rcases hR with ⟨h0, _⟩ | ⟨g, c1, rfl, r1, r2, r3, r4, r5⟩; (exact absurd h0 (by decide)); have q0 := r5 0 (by decide); have R5 := Lib.hid r5; have HB := Lib.hid hB; clear r5 hB)
        | (go_at_call 83; refine (rDC_any _ _).mono ?_; rintro e w2 ⟨rfl, rfl⟩))
      go_ret2
      exact ⟨.slice none 0 0, by rw [E1.out]; rfl, by rw [E2.out]; exact .inl ⟨rfl, rfl⟩, HB.out⟩
  · have e1 : aE n f q c = iE n f q := by unfold aE; rw [if_neg h1]
    have e2 : aN n f q c = 0 := by unfold aN; rw [if_neg (fun h => h1 h.1)]
    have k1 : (iE n f q == 0) = false := by simp; exact h1
    have E1 := Lib.hid e1
    have E2 := Lib.hid e2
    have H2 := Lib.hid h2
    clear e1 e2 h1 h2
    go_enter Tryz.func58, Tryz.ntmps58
    go_wp2_with (go_at_call 57; refine (rInter_any _ _ _ _ _ HS.out).mono ?_; rintro e w1 ⟨v1, rfl, hR, hB⟩; have HB := Lib.hid hB; clear hB hR)
    go_ret2
    exact ⟨.slice none 0 0, by rw [E1.out]; rfl, by rw [E2.out]; exact .inl ⟨rfl, rfl⟩, HB.out⟩
end Qu
end Go.Proofs.YtpibeocngkjolaaGreatDoor
