/- The order as an array; a place of it. | Rows of pairs in memory; what pairs are spread to, no program in sight. | Which pairs a block is, no program in sight; rows of pairs of the call's own. -/
import Derived.Test.YtpibeocngkjolaaGreatDoorMgScanIt
import Derived.Deep.RegionHeld3
set_option linter.unusedVariables false
set_option linter.unusedSimpArgs false

namespace Go.Proofs.YtpibeocngkjolaaGreatDoor
open Go.RowKit Go.Shelf
attribute [local go_sem] Oper.semAt_some
namespace Sc

theorem zeros64 : (#[.int .i64 0, .int .i64 0, .int .i64 0, .int .i64 0, .int .i64 0, .int .i64 0, .int .i64 0, .int .i64 0, .int .i64 0, .int .i64 0, .int .i64 0, .int .i64 0, .int .i64 0, .int .i64 0, .int .i64 0, .int .i64 0, .int .i64 0, .int .i64 0, .int .i64 0, .int .i64 0, .int .i64 0, .int .i64 0, .int .i64 0, .int .i64 0, .int .i64 0, .int .i64 0, .int .i64 0, .int .i64 0, .int .i64 0, .int .i64 0, .int .i64 0, .int .i64 0, .int .i64 0, .int .i64 0, .int .i64 0, .int .i64 0, .int .i64 0, .int .i64 0, .int .i64 0, .int .i64 0, .int .i64 0, .int .i64 0, .int .i64 0, .int .i64 0, .int .i64 0, .int .i64 0, .int .i64 0, .int .i64 0, .int .i64 0, .int .i64 0, .int .i64 0, .int .i64 0, .int .i64 0, .int .i64 0, .int .i64 0, .int .i64 0, .int .i64 0, .int .i64 0, .int .i64 0, .int .i64 0, .int .i64 0, .int .i64 0, .int .i64 0, .int .i64 0] : Array Value) = rowOf .i64 64 (fun _ => 0) := by kernel_rfl
def plF (k : Nat) : Int := (at' k : Nat)
theorem lits64 : (#[.int .i64 0, .int .i64 1, .int .i64 8, .int .i64 16, .int .i64 9, .int .i64 2, .int .i64 3, .int .i64 10, .int .i64 17, .int .i64 24, .int .i64 32, .int .i64 25, .int .i64 18, .int .i64 11, .int .i64 4, .int .i64 5, .int .i64 12, .int .i64 19, .int .i64 26, .int .i64 33, .int .i64 40, .int .i64 48, .int .i64 41, .int .i64 34, .int .i64 27, .int .i64 20, .int .i64 13, .int .i64 6, .int .i64 7, .int .i64 14, .int .i64 21, .int .i64 28, .int .i64 35, .int .i64 42, .int .i64 49, .int .i64 56, .int .i64 57, .int .i64 50, .int .i64 43, .int .i64 36, .int .i64 29, .int .i64 22, .int .i64 15, .int .i64 23, .int .i64 30, .int .i64 37, .int .i64 44, .int .i64 51, .int .i64 58, .int .i64 59, .int .i64 52, .int .i64 45, .int .i64 38, .int .i64 31, .int .i64 39, .int .i64 46, .int .i64 53, .int .i64 60, .int .i64 61, .int .i64 54, .int .i64 47, .int .i64 55, .int .i64 62, .int .i64 63] : Array Value) = rowOf .i64 64 plF := by kernel_rfl
/-- what has come, as numbers by places. -/
def preF (pre : List (Fin 64)) (k : Nat) : Int := (((pre.map Fin.val).getD k 0 : Nat) : Int)
theorem preF_snoc (pre : List (Fin 64)) (x : Fin 64) : preF (pre ++ [x]) = fun k => if k = pre.length then ((x : Nat) : Int) else preF pre k := by
  funext k
  unfold preF
  rw [List.map_append, List.getD_eq_getElem?_getD, List.getD_eq_getElem?_getD]
  by_cases h : k = pre.length
  · subst h
    rw [if_pos rfl, List.getElem?_append_right (by simp)]
    simp
  · rw [if_neg h]
    by_cases g : k < pre.length
    · rw [List.getElem?_append_left (by simpa using g)]
    · rw [List.getElem?_eq_none (by simp; omega), List.getElem?_eq_none (by simp; omega)]
theorem preF_all : ∀ k, k < 64 → preF scanL k = plF k := by decide
theorem kp0_t {A B C : World} (_ : Kp0 A B) (_ : Kp0 B C) : Kp0 A C := trivial
theorem kp0_b {w : World} (W : World) (l : Nat) (o o' : Obj) (_ : w.heap.size ≤ l) (_ : W.heap[l]? = some o) (_ : o.isCells = false) (_ : o.isWalk = false) : Kp0 W (W.putObj l o') := trivial

set_option maxRecDepth 100000 in
set_option maxHeartbeats 4000000 in
theorem places_any (w : World) : Calls Tryz.prog 75 #[] w fun e w' => e = .returned (.agg (rowOf .i64 64 plF)) ∧ Below w.heap.size w w' := by
  have HZ := zeros64
  have m0 := (Arr.new w .i64 (rowOf .i64 64 (fun _ => 0)) 106 64 (fun _ => 0) (fun i hi => rowOf_get _ _ _ _ hi)).alloc (.cells #[.int .i64 0] 3)
  have m1 := Boxed.new (w.alloc (.cells (rowOf .i64 64 (fun _ => 0)) 106)) 3 (.int .i64 0)
  simp only [World.size_alloc] at m1
  have mb : Below w.heap.size w ((w.alloc (.cells (rowOf .i64 64 (fun _ => 0)) 106)).alloc (.cells #[.int .i64 0] 3)) := ((Below.refl w.heap.size w).alloc (Nat.le_refl _) _).alloc (by simp) _
  have ms : ((w.alloc (.cells (rowOf .i64 64 (fun _ => 0)) 106)).alloc (.cells #[.int .i64 0] 3)).heap.size = w.heap.size + 2 := by simp
  refine (callsIn_wide (n := 12)).1 ?_
  refine callsIn_of_wp_marks Tryz.func75 rfl trivial ?_ rfl
  simp only [Tryz.ntmps75, List.size_toArray, List.length_cons, List.length_nil, Nat.reduceAdd, Nat.reduceSub, Array.replicate_succ, Array.replicate_zero, List.push_toArray, List.append_toArray, List.nil_append, List.cons_append]
  gi_wp2_with (refine ⟨trivial, ?_⟩; gi_at_call 97; refine (order_in Fence.wide 11 trivial rfl _).mono ?_; rintro e w' ⟨rfl, rfl⟩)
  clear HZ
  obtain ⟨W0, hW0⟩ : ∃ W0, ((w.alloc (.cells (rowOf .i64 64 (fun _ => 0)) 106)).alloc (.cells #[.int .i64 0] 3)) = W0 := ⟨_, rfl⟩
  rw [hW0] at m0 m1 mb ms ⊢
  clear hW0
  refine wpIn_rangeFunc_ownH (F := Fence.wide) rfl (by omega) (gf := 115) (lb := #[]) rfl trivial (enters_of Tryz.func115 (by kernel_rfl) rfl)
    (order_stops Fence.wide 11 trivial rfl (by omega) W0) kp0_t kp0_b (Below.refl _ _) (fun _ => rfl)
    (fun pre W => (Arr W .i64 w.heap.size 64 (preF pre) ∧ Boxed W (w.heap.size + 1) 3 (.int .i64 ((pre.length : Nat) : Int))) ∧ Below w.heap.size w W)
    (fun _ _ _ => False)
    (OwnFrom.and (OwnFrom.and (ownFrom_arr .i64 w.heap.size 64 (fun pre => preF pre) (by omega)) (Own.from (boxed_own (w.heap.size + 1) _ (fun pre : List (Fin 64) => Value.int .i64 ((pre.length : Nat) : Int))) _)) (ownFrom_below (Nat.le_refl _) (by omega)))
    (fun _ _ _ _ _ hs _ _ => hs)
    ⟨⟨m0.congr (fun i _ => rfl), m1⟩, mb⟩
    (fun x a' _ => a' = { tmps := #[.pointer (some ⟨w.heap.size, 0, none⟩), .pointer (some ⟨w.heap.size + 1, 0, none⟩), .int .i64 ((x : Nat) : Int), .func (.func 115) #[] #[], .int .i64 ((x : Nat) : Int), undef, undef, undef, undef, undef, undef], defers := [] })
    (fun _ _ _ _ _ _ hs _ _ => hs)
    ?assign ?body ?done ?stop
  case assign =>
    rintro l pre x W K h hK
    gi_wp2
    exact hK _ _ (KeepsFrom.refl _ _) trivial h rfl
  case body =>
    rintro l pre x a' W hl ⟨r, hr⟩ ⟨⟨hA, hX⟩, hB⟩ rfl hlt
    obtain ⟨q, hq⟩ : ∃ q, q = pre.length := ⟨_, rfl⟩
    rw [← hq] at hX hlt
    have ca := hA q hlt
    have cx := hX.cell
    have fx := hX.frozen
    have qb : (0 : Int) ≤ (q : Int) ∧ (q : Int) < 64 := by omega
    have hA2 : Arr (W.setCell ⟨w.heap.size, q, none⟩ (.int .i64 ((x : Nat) : Int))) .i64 w.heap.size 64 (preF (pre ++ [x])) := by rw [preF_snoc, ← hq]; exact hA.set q _
    have hX2 := hX.kept (grown_set (World.grownBy.refl W (some w.heap.size)) q (.int .i64 ((x : Nat) : Int))) (by simp)
    have ql : ((pre ++ [x]).length : Nat) = q + 1 := by simp [hq]
    have HA := Lib.hid hA2
    have HX := Lib.hid hX2
    have HB := Lib.hid hB
    have QL := Lib.hid ql
    clear hA hX hB hA2 hX2 hq ql
    gi_wp2
    refine ⟨((KeepsOthers.setCell _ _ _).trans (KeepsOthers.setCell _ _ _)).from _, trivial, ⟨HA.out.far (a := ⟨w.heap.size + 1, 0, none⟩) (by simp) _, ?_⟩, (HB.out.setCell (p := ⟨w.heap.size, q, none⟩) (Nat.le_refl _) _).setCell (p := ⟨w.heap.size + 1, 0, none⟩) (by simp) _⟩
    rw [QL.out]
    exact HX.out.set _
  case done =>
    rintro D ys W hD rfl ⟨⟨hA, hX⟩, hB⟩ hK
    have HA := Lib.hid (hA.congr preF_all)
    have HB := Lib.hid hB
    have HK := Lib.hid hK
    clear hA hX hB hK
    gi_wp2_with (first
      | (refine wpListIn_load_arr rfl 106 (.tmp 0) rfl rfl HA.out Tryz.underlying106 (by kernel_rfl) ?_)
      | (refine wpListIn_store_arr rfl 106 (.tmp 0) (.tmp 10) rfl rfl rfl HA.out (by kernel_rfl) ?_; intro w2 HA2 HG2))
    have hK2 : w2.heap[D]? = some (.deferred (some [])) := (HG2.out.block D (Array.getElem?_eq_some_iff.1 HK.out).1 (fun e => by have := Option.some.inj e; omega)).trans HK.out
    have hB2 := HB.out.grown HG2.out HB.out.size (fun g hg => by cases hg; exact Nat.le_refl _)
    have hD2 := (Array.getElem?_eq_some_iff.1 hK2).1
    refine ⟨by simp, .inl ⟨_, _, rfl, run_takeDeferred hK2, ?_⟩⟩
    exact ⟨_, results_cell_arr rfl _ rfl (HA2.out.grown (grownBy_putObj' w2 D (.deferred none)) (fun e => by have := Option.some.inj e; omega)) Tryz.underlying106 (by kernel_rfl), rfl, hB2.grown (grownBy_putObj' w2 D (.deferred none)) hB2.size (fun g hg => by cases hg; omega)⟩
  case stop =>
    rintro D c pre W _ _ h _
    exact h.elim
end Sc
end Go.Proofs.YtpibeocngkjolaaGreatDoor

namespace Go.Proofs.YtpibeocngkjolaaGreatDoor
open Go.RowKit

/-- n pairs of a block from o on, and the numbers in them. -/
def Pairs (w : World) (b o n : Nat) (r l : Nat → Int) : Prop := ∀ i, i < n → w.cell? ⟨b, o + i * 2, none⟩ = some (.int .i64 (r i)) ∧ w.cell? ⟨b, o + i * 2 + 1, none⟩ = some (.int .i64 (l i))
/-- a slice value that reads as n pairs. -/
def Pl (w : World) (v : Value) (n : Nat) (r l : Nat → Int) : Prop :=
  ∃ a c, v = .slice a n c ∧ n ≤ c ∧ c ≤ maxLen ∧ ((n = 0 ∧ (a = none → c = 0)) ∨ ∃ b o, a = some ⟨b, o, none⟩ ∧ b < w.heap.size ∧ Pairs w b o n r l)
theorem Pairs.below {w w' : World} {b o n B : Nat} {r l : Nat → Int} (h : Pairs w b o n r l) (hw : Below B w w') (hb : b < B) : Pairs w' b o n r l :=
  fun i hi => ⟨(hw.cell (p := ⟨b, o + i * 2, none⟩) hb).trans (h i hi).1, (hw.cell (p := ⟨b, o + i * 2 + 1, none⟩) hb).trans (h i hi).2⟩
theorem Pairs.lt {w : World} {b o n : Nat} {r l : Nat → Int} (h : Pairs w b o n r l) (hn : 0 < n) : b < w.heap.size := World.block_lt_of_cell? w _ (h 0 hn).1
theorem Pl.below {w w' : World} {v : Value} {n : Nat} {r l : Nat → Int} (h : Pl w v n r l) (hw : Below w.heap.size w w') : Pl w' v n r l := by
  obtain ⟨a, c, rfl, h1, h2, h3⟩ := h
  rcases h3 with h3 | ⟨b, o, rfl, h4, h5⟩
  · exact ⟨a, c, rfl, h1, h2, .inl h3⟩
  · exact ⟨_, c, rfl, h1, h2, .inr ⟨b, o, rfl, Nat.lt_of_lt_of_le h4 hw.size, h5.below hw h4⟩⟩
namespace Sc

def lvl (x : Int) : Bool := decide (-127 ≤ x ∧ x ≤ 127)
/-- the next place, behind k pairs. -/
def spA (first : Int) (r : Nat → Int) : Nat → Int
  | 0 => first
  | k + 1 => spA first r k + r k + 1
/-- the error, behind k pairs. -/
def spE (first : Int) (r l : Nat → Int) : Nat → Int
  | 0 => 0
  | k + 1 => if spE first r l k ≠ 0 then spE first r l k else if l k = 0 ∨ lvl (l k) = false then 10 else if r k < 0 ∨ 63 - spA first r k < r k then 11 else 0
/-- the block, behind k pairs. -/
def spF (first : Int) (r l : Nat → Int) : Nat → Nat → Int
  | 0 => fun _ => 0
  | k + 1 => fun p => if p = at' (spA first r k + r k).toNat then l k else spF first r l k p
def sE (first : Int) (n : Nat) (r l : Nat → Int) : Int := if first = 0 ∨ first = 1 then spE first r l n else 3
def sN (first : Int) (n : Nat) (r l : Nat → Int) : Nat := if sE first n r l = 0 then 64 else 0
/-- what Spread comes to. -/
def Spreads (w : World) (first : Int) (n : Nat) (r l : Nat → Int) (e : Ending) (w' : World) : Prop :=
  ∃ v, e = .returned (.tuple #[v, .int .i64 (sE first n r l)]) ∧ Res .i64 w.heap.size w' v (sN first n r l) (spF first r l n) ∧ Below w.heap.size w w'
theorem spE_succ (first : Int) (r l : Nat → Int) (k : Nat) : spE first r l (k + 1) = if spE first r l k ≠ 0 then spE first r l k else if l k = 0 ∨ lvl (l k) = false then 10 else if r k < 0 ∨ 63 - spA first r k < r k then 11 else 0 := rfl
theorem spE_stay {first : Int} {r l : Nat → Int} {k : Nat} (h : spE first r l k ≠ 0) : ∀ n, k ≤ n → spE first r l n = spE first r l k
  | 0, hn => by obtain rfl : k = 0 := by omega
                rfl
  | n + 1, hn => by
    by_cases e : k = n + 1
    · rw [e]
    · have ih := spE_stay h n (by omega)
      rw [spE_succ, ih, if_pos h]
theorem spE_cases {first : Int} {r l : Nat → Int} {k : Nat} (h : spE first r l (k + 1) = 0) : spE first r l k = 0 ∧ l k ≠ 0 ∧ lvl (l k) = true ∧ 0 ≤ r k ∧ r k ≤ 63 - spA first r k := by
  rw [spE_succ] at h
  by_cases h0 : spE first r l k ≠ 0
  · rw [if_pos h0] at h; exact absurd h h0
  · rw [if_neg h0] at h
    by_cases h1 : l k = 0 ∨ lvl (l k) = false
    · rw [if_pos h1] at h; exact absurd h (by decide)
    · rw [if_neg h1] at h
      by_cases h2 : r k < 0 ∨ 63 - spA first r k < r k
      · rw [if_pos h2] at h; exact absurd h (by decide)
      · refine ⟨by omega, fun e => h1 (.inl e), ?_, by omega, by omega⟩
        cases e : lvl (l k)
        · exact absurd (.inr e) h1
        · rfl
theorem spA_bd {first : Int} {r l : Nat → Int} (hf : first = 0 ∨ first = 1) : ∀ k, spE first r l k = 0 → 0 ≤ spA first r k ∧ spA first r k ≤ 64
  | 0, _ => by simp only [spA]; omega
  | k + 1, h => by
    obtain ⟨h1, _, _, h4, h5⟩ := spE_cases h
    have := spA_bd hf k h1
    simp only [spA]; omega
end Sc
end Go.Proofs.YtpibeocngkjolaaGreatDoor

namespace Go.Proofs.YtpibeocngkjolaaGreatDoor
open Go.RowKit

/-- the cells of the first n pairs. -/
def pcs (r l : Nat → Int) : Nat → List Value
  | 0 => []
  | n + 1 => pcs r l n ++ [.int .i64 (r n), .int .i64 (l n)]
theorem pcs_len (r l : Nat → Int) : ∀ n, (pcs r l n).length = n * 2
  | 0 => rfl
  | n + 1 => by simp [pcs, pcs_len r l n]; omega
theorem pcs_congr {r l r' l' : Nat → Int} : ∀ n, (∀ i, i < n → r i = r' i ∧ l i = l' i) → pcs r l n = pcs r' l' n
  | 0, _ => rfl
  | n + 1, h => by
    rw [pcs, pcs, pcs_congr n (fun i hi => h i (by omega)), (h n (by omega)).1, (h n (by omega)).2]
theorem pcs_get (r l : Nat → Int) : ∀ n i, i < n → (pcs r l n)[i * 2]? = some (.int .i64 (r i)) ∧ (pcs r l n)[i * 2 + 1]? = some (.int .i64 (l i))
  | 0, i, h => absurd h (by omega)
  | n + 1, i, h => by
    have hl := pcs_len r l n
    by_cases e : i = n
    · subst e
      constructor
      · rw [pcs, List.getElem?_append_right (by omega), hl, Nat.sub_self]; rfl
      · rw [pcs, List.getElem?_append_right (by omega), hl, show i * 2 + 1 - i * 2 = 1 by omega]; rfl
    · have ih := pcs_get r l n i (by omega)
      constructor
      · rw [pcs, List.getElem?_append_left (by omega)]; exact ih.1
      · rw [pcs, List.getElem?_append_left (by omega)]; exact ih.2
/-- a slice of pairs of the call's own: nil, if it is empty; else a row in a block from B on. -/
def RPl (B : Nat) (w : World) (v : Value) (n : Nat) (r l : Nat → Int) : Prop :=
  (n = 0 ∧ v = .slice none 0 0) ∨ ∃ g c, v = .slice (some ⟨g, 0, none⟩) n c ∧ B ≤ g ∧ g < w.heap.size ∧ n ≤ c ∧ c ≤ maxLen ∧ Pairs w g 0 n r l
theorem RPl.of_own {w : World} {B n : Nat} {e : TypeId} {v : Value} {r l : Nat → Int} (h : w.ownsRow B e 2 v n (pcs r l n)) : RPl B w v n r l := by
  have hc := fun g => World.ownsRow.cells h (g := g)
  rcases h.2 with ⟨h0, h1⟩ | ⟨g, cap, cur, rfl, hb, hg, h1, h2, h3, h4⟩
  · exact .inl ⟨h1, h0⟩
  · refine .inr ⟨g, cap, rfl, hb, (Array.getElem?_eq_some_iff.1 hg).1, h1, h2, fun i hi => ?_⟩
    obtain ⟨p1, p2⟩ := pcs_get r l n i hi
    have a1 := hc g rfl _ _ p1
    have a2 := hc g rfl _ _ p2
    have ad : ∀ j, (⟨g, 0, none⟩ : Addr).add j = ⟨g, j, none⟩ := fun j => by unfold Addr.add; split <;> simp_all
    rw [ad] at a1 a2
    rw [show 0 + i * 2 = i * 2 by omega]
    exact ⟨a1, a2⟩
theorem RPl.mono {w : World} {B B' n : Nat} {v : Value} {r l : Nat → Int} (hb : B' ≤ B) (h : RPl B w v n r l) : RPl B' w v n r l := by
  rcases h with h | ⟨g, c, rfl, h1, h2⟩
  · exact .inl h
  · exact .inr ⟨g, c, rfl, Nat.le_trans hb h1, h2⟩
theorem RPl.pl {w : World} {B n : Nat} {v : Value} {r l : Nat → Int} (h : RPl B w v n r l) : Pl w v n r l := by
  rcases h with ⟨h0, rfl⟩ | ⟨g, c, rfl, h1, h2, h3, h4, h5⟩
  · subst h0; exact ⟨none, 0, rfl, Nat.le_refl _, Nat.zero_le _, .inl ⟨rfl, fun _ => rfl⟩⟩
  · exact ⟨_, c, rfl, h3, h4, .inr ⟨g, 0, rfl, h2, h5⟩⟩
theorem RPl.below {w w' : World} {B n : Nat} {v : Value} {r l : Nat → Int} (h : RPl B w v n r l) (hw : Below w.heap.size w w') : RPl B w' v n r l := by
  rcases h with h | ⟨g, c, rfl, h1, h2, h3, h4, h5⟩
  · exact .inl h
  · exact .inr ⟨g, c, rfl, h1, Nat.lt_of_lt_of_le h2 hw.size, h3, h4, h5.below hw h2⟩
theorem Pl.congr {w : World} {v : Value} {n : Nat} {r l r' l' : Nat → Int} (h : Pl w v n r l) (hg : ∀ i, i < n → r i = r' i ∧ l i = l' i) : Pl w v n r' l' := by
  obtain ⟨a, c, rfl, h1, h2, h3⟩ := h
  rcases h3 with h3 | ⟨b, o, rfl, h4, h5⟩
  · exact ⟨a, c, rfl, h1, h2, .inl h3⟩
  · refine ⟨_, c, rfl, h1, h2, .inr ⟨b, o, rfl, h4, fun i hi => ?_⟩⟩
    rw [← (hg i hi).1, ← (hg i hi).2]; exact h5 i hi
namespace Sc

/-- behind k places: how many pairs; the run; the pairs. -/
structure RS where
  c : Nat
  run : Int
  r : Nat → Int
  l : Nat → Int
def ruS (f : Nat → Int) (first : Nat) : Nat → RS
  | 0 => ⟨0, 0, fun _ => 0, fun _ => 0⟩
  | k + 1 => if f (at' (first + k)) = 0 then ⟨(ruS f first k).c, (ruS f first k).run + 1, (ruS f first k).r, (ruS f first k).l⟩
    else ⟨(ruS f first k).c + 1, 0, fun i => if i = (ruS f first k).c then (ruS f first k).run else (ruS f first k).r i, fun i => if i = (ruS f first k).c then f (at' (first + k)) else (ruS f first k).l i⟩
theorem ruS_zero {f : Nat → Int} {first k : Nat} (h : f (at' (first + k)) = 0) :
    (ruS f first (k + 1)).c = (ruS f first k).c ∧ (ruS f first (k + 1)).run = (ruS f first k).run + 1 ∧ (ruS f first (k + 1)).r = (ruS f first k).r ∧ (ruS f first (k + 1)).l = (ruS f first k).l := by
  rw [ruS, if_pos h]; exact ⟨rfl, rfl, rfl, rfl⟩
theorem ruS_some {f : Nat → Int} {first k : Nat} (h : f (at' (first + k)) ≠ 0) :
    (ruS f first (k + 1)).c = (ruS f first k).c + 1 ∧ (ruS f first (k + 1)).run = 0 ∧ (ruS f first (k + 1)).r = (fun i => if i = (ruS f first k).c then (ruS f first k).run else (ruS f first k).r i)
      ∧ (ruS f first (k + 1)).l = fun i => if i = (ruS f first k).c then f (at' (first + k)) else (ruS f first k).l i := by
  rw [ruS, if_neg h]; exact ⟨rfl, rfl, rfl, rfl⟩
theorem ruS_bd (f : Nat → Int) (first : Nat) : ∀ k, (ruS f first k).c ≤ k ∧ 0 ≤ (ruS f first k).run ∧ (ruS f first k).run ≤ k
  | 0 => by simp [ruS]
  | k + 1 => by
    obtain ⟨h1, h2, h3⟩ := ruS_bd f first k
    by_cases h : f (at' (first + k)) = 0
    · obtain ⟨e1, e2, _, _⟩ := ruS_zero h
      rw [e1, e2]; omega
    · obtain ⟨e1, e2, _, _⟩ := ruS_some h
      rw [e1, e2]; omega
/-- the cells of the pairs, behind k places. -/
def ruCells (f : Nat → Int) (first k : Nat) : List Value := pcs (ruS f first k).r (ruS f first k).l (ruS f first k).c
theorem ruCells_zero {f : Nat → Int} {first k : Nat} (h : f (at' (first + k)) = 0) : ruCells f first (k + 1) = ruCells f first k := by
  obtain ⟨e1, _, e3, e4⟩ := ruS_zero h
  unfold ruCells; rw [e1, e3, e4]
theorem ruCells_some {f : Nat → Int} {first k : Nat} (h : f (at' (first + k)) ≠ 0) : ruCells f first (k + 1) = ruCells f first k ++ [.int .i64 (ruS f first k).run, .int .i64 (f (at' (first + k)))] := by
  obtain ⟨e1, _, e3, e4⟩ := ruS_some h
  unfold ruCells; rw [e1, e3, e4, pcs]
  rw [pcs_congr (r' := (ruS f first k).r) (l' := (ruS f first k).l) _ (fun i hi => by simp only [if_neg (show i ≠ (ruS f first k).c by omega)]; exact ⟨trivial, trivial⟩)]
  simp
/-- may the first k numbers all be levels? -/
def okV (f : Nat → Int) (k : Nat) : Bool := (List.range k).all fun i => lvl (f i)
theorem okV_succ (f : Nat → Int) (k : Nat) : okV f (k + 1) = (okV f k && lvl (f k)) := by unfold okV; rw [List.range_succ]; simp
theorem okV_at {f : Nat → Int} {k : Nat} (h : okV f k = true) (i : Nat) (hi : i < k) : lvl (f i) = true := by
  unfold okV at h; rw [List.all_eq_true] at h; exact h i (List.mem_range.2 hi)
theorem okV_not {f : Nat → Int} {k i : Nat} (hi : i < k) (h : lvl (f i) = false) : okV f k = false := by
  cases e : okV f k
  · rfl
  · rw [okV_at e i hi] at h; cases h
/-- the error of Runs, and how many pairs it tells. -/
def rE (first : Int) (n : Nat) (f : Nat → Int) : Int := if first = 0 ∨ first = 1 then (if n ≠ 64 ∨ (first = 1 ∧ f 0 ≠ 0) then 2 else if okV f 64 then 0 else 10) else 3
def rN (first : Int) (n : Nat) (f : Nat → Int) : Nat := if rE first n f = 0 then (ruS f first.toNat (64 - first.toNat)).c else 0
def rR (first : Int) (f : Nat → Int) : Nat → Int := (ruS f first.toNat (64 - first.toNat)).r
def rL (first : Int) (f : Nat → Int) : Nat → Int := (ruS f first.toNat (64 - first.toNat)).l
/-- what Runs comes to. -/
def RunsTo (w : World) (first : Int) (n : Nat) (f : Nat → Int) (e : Ending) (w' : World) : Prop :=
  ∃ v, e = .returned (.tuple #[v, .int .i64 (rE first n f)]) ∧ RPl w.heap.size w' v (rN first n f) (rR first f) (rL first f) ∧ Below w.heap.size w w'
theorem runsTo_no {w w' : World} {first : Int} {n : Nat} {f : Nat → Int} {x : Int} (h : rE first n f = x) (hx : x ≠ 0) (hB : Below w.heap.size w w') : RunsTo w first n f (.returned (.tuple #[.slice none 0 0, .int .i64 x])) w' :=
  ⟨_, by rw [h], .inl ⟨by unfold rN; rw [if_neg (by rw [h]; exact hx)], rfl⟩, hB⟩
theorem runsTo_yes {w w' : World} {first : Nat} {n : Nat} {f : Nat → Int} {v : Value} {e : TypeId} {B : Nat} (h : rE first n f = 0) (hb : w.heap.size ≤ B) (hown : w'.ownsRow B e 2 v (ruS f first (64 - first)).c (ruCells f first (64 - first))) (hB : Below w.heap.size w w') :
    RunsTo w first n f (.returned (.tuple #[v, .int .i64 0])) w' := by
  refine ⟨_, by rw [h], ?_, hB⟩
  have e0 : rN first n f = (ruS f first (64 - first)).c := by unfold rN; rw [if_pos h]; rfl
  rw [e0]
  exact (RPl.of_own hown).mono hb
end Sc
end Go.Proofs.YtpibeocngkjolaaGreatDoor
