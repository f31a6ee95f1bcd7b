/- The order as an array; a place of it. -/
import Derived.Test.YtngffhpkjekopaaScanIt
import Derived.Deep.RegionHeld3
namespace Go.Proofs.Ytngffhpkjekopaa
open Go.RowKit Go.Shelf
attribute [local go_sem] Oper.semAt_some
namespace Sc

theorem zeros64 : (#[.int .i64 0, .int .i64 0, .int .i64 0, .int .i64 0, .int .i64 0, .int .i64 0, .int .i64 0, .int .i64 0, .int .i64 0, .int .i64 0, .int .i64 0, .int .i64 0, .int .i64 0, .int .i64 0, .int .i64 0, .int .i64 0, .int .i64 0, .int .i64 0, .int .i64 0, .int .i64 0, .int .i64 0, .int .i64 0, .int .i64 0, .int .i64 0, .int .i64 0, .int .i64 0, .int .i64 0, .int .i64 0, .int .i64 0, .int .i64 0, .int .i64 0, .int .i64 0, .int .i64 0, .int .i64 0, .int .i64 0, .int .i64 0, .int .i64 0, .int .i64 0, .int .i64 0, .int .i64 0, .int .i64 0, .int .i64 0, .int .i64 0, .int .i64 0, .int .i64 0, .int .i64 0, .int .i64 0, .int .i64 0, .int .i64 0, .int .i64 0, .int .i64 0, .int .i64 0, .int .i64 0, .int .i64 0, .int .i64 0, .int .i64 0, .int .i64 0, .int .i64 0, .int .i64 0, .int .i64 0, .int .i64 0, .int .i64 0, .int .i64 0, .int .i64 0] : Array Value) = rowOf .i64 64 (fun _ => 0) := by kernel_rfl
def plF (k : Nat) : Int := (at' k : Nat)
theorem lits64 : (#[.int .i64 0, .int .i64 1, .int .i64 8, .int .i64 16, .int .i64 9, .int .i64 2, .int .i64 3, .int .i64 10, .int .i64 17, .int .i64 24, .int .i64 32, .int .i64 25, .int .i64 18, .int .i64 11, .int .i64 4, .int .i64 5, .int .i64 12, .int .i64 19, .int .i64 26, .int .i64 33, .int .i64 40, .int .i64 48, .int .i64 41, .int .i64 34, .int .i64 27, .int .i64 20, .int .i64 13, .int .i64 6, .int .i64 7, .int .i64 14, .int .i64 21, .int .i64 28, .int .i64 35, .int .i64 42, .int .i64 49, .int .i64 56, .int .i64 57, .int .i64 50, .int .i64 43, .int .i64 36, .int .i64 29, .int .i64 22, .int .i64 15, .int .i64 23, .int .i64 30, .int .i64 37, .int .i64 44, .int .i64 51, .int .i64 58, .int .i64 59, .int .i64 52, .int .i64 45, .int .i64 38, .int .i64 31, .int .i64 39, .int .i64 46, .int .i64 53, .int .i64 60, .int .i64 61, .int .i64 54, .int .i64 47, .int .i64 55, .int .i64 62, .int .i64 63] : Array Value) = rowOf .i64 64 plF := by kernel_rfl
/-- what has come, as numbers by places. -/
def preF (pre : List (Fin 64)) (k : Nat) : Int := (((pre.map Fin.val).getD k 0 : Nat) : Int)
theorem preF_snoc (pre : List (Fin 64)) (x : Fin 64) : preF (pre ++ [x]) = fun k => if k = pre.length then ((x : Nat) : Int) else preF pre k := by
  funext k
  unfold preF
  rw [List.map_append, List.getD_eq_getElem?_getD, List.getD_eq_getElem?_getD]
  by_cases h : k = pre.length
  · subst h
    rw [if_pos rfl, List.getElem?_append_right (by simp)]
    simp
  · rw [if_neg h]
    by_cases g : k < pre.length
    · rw [List.getElem?_append_left (by simpa using g)]
    · rw [List.getElem?_eq_none (by simp; omega), List.getElem?_eq_none (by simp; omega)]
theorem preF_all : ∀ k, k < 64 → preF scanL k = plF k := by decide
theorem kp0_t {A B C : World} (_ : Kp0 A B) (_ : Kp0 B C) : Kp0 A C := trivial
theorem kp0_b {w : World} (W : World) (l : Nat) (o o' : Obj) (_ : w.heap.size ≤ l) (_ : W.heap[l]? = some o) (_ : o.isCells = false) (_ : o.isWalk = false) : Kp0 W (W.putObj l o') := trivial

set_option maxRecDepth 100000 in
set_option maxHeartbeats 4000000 in
theorem places_any (w : World) : Calls Try.prog 25 #[] w fun e w' => e = .returned (.agg (rowOf .i64 64 plF)) ∧ Below w.heap.size w w' := by
  have HZ := zeros64
  have m0 := (Arr.new w .i64 (rowOf .i64 64 (fun _ => 0)) 48 64 (fun _ => 0) (fun i hi => rowOf_get _ _ _ _ hi)).alloc (.cells #[.int .i64 0] 3)
  have m1 := Boxed.new (w.alloc (.cells (rowOf .i64 64 (fun _ => 0)) 48)) 3 (.int .i64 0)
  simp only [World.size_alloc] at m1
  have mb : Below w.heap.size w ((w.alloc (.cells (rowOf .i64 64 (fun _ => 0)) 48)).alloc (.cells #[.int .i64 0] 3)) := ((Below.refl w.heap.size w).alloc (Nat.le_refl _) _).alloc (by simp) _
  have ms : ((w.alloc (.cells (rowOf .i64 64 (fun _ => 0)) 48)).alloc (.cells #[.int .i64 0] 3)).heap.size = w.heap.size + 2 := by simp
  refine (callsIn_wide (n := 12)).1 ?_
  refine callsIn_of_wp_marks Try.func25 rfl trivial ?_ rfl
  simp only [Try.ntmps25, List.size_toArray, List.length_cons, List.length_nil, Nat.reduceAdd, Nat.reduceSub, Array.replicate_succ, Array.replicate_zero, List.push_toArray, List.append_toArray, List.nil_append, List.cons_append]
  gi_wp2_with (refine ⟨trivial, ?_⟩; gi_at_call 28; refine (order_in Fence.wide 11 trivial rfl _).mono ?_; rintro e w' ⟨rfl, rfl⟩)
  clear HZ
  obtain ⟨W0, hW0⟩ : ∃ W0, ((w.alloc (.cells (rowOf .i64 64 (fun _ => 0)) 48)).alloc (.cells #[.int .i64 0] 3)) = W0 := ⟨_, rfl⟩
  rw [hW0] at m0 m1 mb ms ⊢
  clear hW0
  refine wpIn_rangeFunc_ownH (F := Fence.wide) rfl (by omega) (gf := 29) (lb := #[]) rfl trivial (enters_of Try.func29 (by kernel_rfl) rfl)
    (order_stops Fence.wide 11 trivial rfl (by omega) W0) kp0_t kp0_b (Below.refl _ _) (fun _ => rfl)
    (fun pre W => (Arr W .i64 w.heap.size 64 (preF pre) ∧ Boxed W (w.heap.size + 1) 3 (.int .i64 ((pre.length : Nat) : Int))) ∧ Below w.heap.size w W)
    (fun _ _ _ => False)
    (OwnFrom.and (OwnFrom.and (ownFrom_arr .i64 w.heap.size 64 (fun pre => preF pre) (by omega)) (Own.from (boxed_own (w.heap.size + 1) _ (fun pre : List (Fin 64) => Value.int .i64 ((pre.length : Nat) : Int))) _)) (ownFrom_below (Nat.le_refl _) (by omega)))
    (fun _ _ _ _ _ hs _ _ => hs)
    ⟨⟨m0.congr (fun i _ => rfl), m1⟩, mb⟩
    (fun x a' _ => a' = { tmps := #[.pointer (some ⟨w.heap.size, 0, none⟩), .pointer (some ⟨w.heap.size + 1, 0, none⟩), .int .i64 ((x : Nat) : Int), .func (.func 29) #[] #[], .int .i64 ((x : Nat) : Int), undef, undef, undef, undef, undef, undef], defers := [] })
    (fun _ _ _ _ _ _ hs _ _ => hs)
    ?assign ?body ?done ?stop
  case assign =>
    rintro l pre x W K h hK
    gi_wp2
    exact hK _ _ (KeepsFrom.refl _ _) trivial h rfl
  case body =>
    rintro l pre x a' W hl ⟨r, hr⟩ ⟨⟨hA, hX⟩, hB⟩ rfl hlt
    obtain ⟨q, hq⟩ : ∃ q, q = pre.length := ⟨_, rfl⟩
    rw [← hq] at hX hlt
    have ca := hA q hlt
    have cx := hX.cell
    have fx := hX.frozen
    have qb : (0 : Int) ≤ (q : Int) ∧ (q : Int) < 64 := by omega
    have hA2 : Arr (W.setCell ⟨w.heap.size, q, none⟩ (.int .i64 ((x : Nat) : Int))) .i64 w.heap.size 64 (preF (pre ++ [x])) := by rw [preF_snoc, ← hq]; exact hA.set q _
    have hX2 := hX.kept (grown_set (World.grownBy.refl W (some w.heap.size)) q (.int .i64 ((x : Nat) : Int))) (by simp)
    have ql : ((pre ++ [x]).length : Nat) = q + 1 := by simp [hq]
    have HA := Lib.hid hA2
    have HX := Lib.hid hX2
    have HB := Lib.hid hB
    have QL := Lib.hid ql
    clear hA hX hB hA2 hX2 hq ql
    gi_wp2
    refine ⟨((KeepsOthers.setCell _ _ _).trans (KeepsOthers.setCell _ _ _)).from _, trivial, ⟨HA.out.far (a := ⟨w.heap.size + 1, 0, none⟩) (by simp) _, ?_⟩, (HB.out.setCell (p := ⟨w.heap.size, q, none⟩) (Nat.le_refl _) _).setCell (p := ⟨w.heap.size + 1, 0, none⟩) (by simp) _⟩
    rw [QL.out]
    exact HX.out.set _
  case done =>
    rintro D ys W hD rfl ⟨⟨hA, hX⟩, hB⟩ hK
    have HA := Lib.hid (hA.congr preF_all)
    have HB := Lib.hid hB
    have HK := Lib.hid hK
    clear hA hX hB hK
    gi_wp2_with (first
      | (refine wpListIn_load_arr rfl 48 (.tmp 0) rfl rfl HA.out Try.underlying48 (by kernel_rfl) ?_)
      | (refine wpListIn_store_arr rfl 48 (.tmp 0) (.tmp 10) rfl rfl rfl HA.out (by kernel_rfl) ?_; intro w2 HA2 HG2))
    have hK2 : w2.heap[D]? = some (.deferred (some [])) := (HG2.out.block D (Array.getElem?_eq_some_iff.1 HK.out).1 (fun e => by have := Option.some.inj e; omega)).trans HK.out
    have hB2 := HB.out.grown HG2.out HB.out.size (fun g hg => by cases hg; exact Nat.le_refl _)
    have hD2 := (Array.getElem?_eq_some_iff.1 hK2).1
    refine ⟨by simp, .inl ⟨_, _, rfl, run_takeDeferred hK2, ?_⟩⟩
    exact ⟨_, results_cell_arr rfl _ rfl (HA2.out.grown (grownBy_putObj' w2 D (.deferred none)) (fun e => by have := Option.some.inj e; omega)) Try.underlying48 (by kernel_rfl), rfl, hB2.grown (grownBy_putObj' w2 D (.deferred none)) hB2.size (fun g hg => by cases hg; omega)⟩
  case stop =>
    rintro D c pre W _ _ h _
    exact h.elim
end Sc
end Go.Proofs.Ytngffhpkjekopaa
