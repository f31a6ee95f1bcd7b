/- motion: the numbers 0 to 7, one after another. -/
import Derived.RangeFuncNested
import Derived.RangeFuncBound
import Derived.RangeFuncCalls
import Derived.RangeFuncLeaves
import Derived.Shelf.Abstract
import Derived.WalkKit
import Derived.OwnWalkIn
import Derived.TacticsInMore
import Derived.LoopNIn
import Derived.LoopIn
import Derived.Test.YtkeempljogjceaaMo3
namespace Go.Proofs.Ytkeempljogjceaa
open Go.RowKit Go.Shelf
attribute [local go_sem] Oper.semAt_some
namespace Mo

def first8 (k : Nat) : List (Fin 8) := (List.finRange 8).take k
theorem first8_succ (k : Nat) (h : k < 8) : first8 k ++ [⟨k, h⟩] = first8 (k + 1) := by
  rcases (by omega : k = 0 ∨ k = 1 ∨ k = 2 ∨ k = 3 ∨ k = 4 ∨ k = 5 ∨ k = 6 ∨ k = 7) with rfl | rfl | rfl | rfl | rfl | rfl | rfl | rfl <;> rfl
theorem first8_len (k : Nat) (h : k < 8) : (first8 k).length < 8 := by
  rcases (by omega : k = 0 ∨ k = 1 ∨ k = 2 ∨ k = 3 ∨ k = 4 ∨ k = 5 ∨ k = 6 ∨ k = 7) with rfl | rfl | rfl | rfl | rfl | rfl | rfl | rfl <;> decide
theorem first8_pre (k : Nat) : first8 k <+: List.finRange 8 := List.take_prefix k _
theorem first8_all : first8 8 = List.finRange 8 := rfl
/-- what a round must keep: nothing. -/
def Kp0 (_ _ : World) : Prop := True
theorem kp0_t {A B C : World} (_ : Kp0 A B) (_ : Kp0 B C) : Kp0 A C := trivial
theorem kp0_b {w : World} (W : World) (l : Nat) (o o' : Obj) (_ : w.heap.size ≤ l) (_ : W.heap[l]? = some o) (_ : o.isCells = false) (_ : o.isWalk = false) : Kp0 W (W.putObj l o') := trivial

set_option maxRecDepth 100000 in
set_option maxHeartbeats 1000000 in
theorem rows1_in (F : Fence) (n : Nat) (hf : F.fn 63) (hro : F.round = none) (_hn : 1 ≤ n) (l : Nat) (J Jx : List (Fin 8) → World → Prop)
    (hY : ∀ pre (x : Fin 8) W, J pre W → pre.length < 8 → YieldAt F (n - 1) Try.prog l #[.int .i64 ((x : Nat) : Int)] W fun e W' =>
      (e = .returned (.bool true) ∧ J (pre ++ [x]) W' ∧ True) ∨ (e = .returned (.bool false) ∧ Jx (pre ++ [x]) W'))
    (W : World) (h0 : J [] W) :
    CallsIn F n Try.prog 63 #[.func (.yield l) #[] #[]] W fun e W' => (∃ v, e = .returned v) ∧
      ((∃ ys, ys = List.finRange 8 ∧ J ys W') ∨ (∃ pre, pre <+: List.finRange 8 ∧ Jx pre W')) := by
  refine callsIn_of_wp Try.func63 rfl hf ?_ hro
  simp only [Try.ntmps63, List.size_toArray, List.length_cons, List.length_nil, Nat.reduceAdd, Nat.reduceSub, Array.replicate_succ, Array.replicate_zero, List.push_toArray, List.append_toArray, List.nil_append, List.cons_append]
  gi_wp2
  gi_loopw [3] (fun i wr => ∃ k : Nat, k ≤ 8 ∧ i = .int .i64 k ∧ J (first8 k) wr)
    (fun i _ => 8 - (intOf i).toNat)
  case atStart => exact ⟨0, by omega, rfl, h0⟩
  case round =>
    obtain ⟨k, hk, rfl, hJ⟩ := hrel
    by_cases hk8 : k < 8
    · have kb : (0 : Int) ≤ (k : Int) ∧ (k : Int) < 8 := by omega
      obtain ⟨fn, tmps, assign, body, hy, hR⟩ := hY (first8 k) ⟨k, hk8⟩ wr hJ (first8_len k hk8)
      dsimp only at hy
      gi_wp2
      refine hR.mono ?_
      rintro e W3 (⟨rfl, hJ3, _⟩ | ⟨rfl, hJx3⟩)
      · gi_wp2
        go_roundw
        case rel => exact ⟨k + 1, by omega, by go_num, by rw [← first8_succ k hk8]; exact hJ3⟩
        case measure => simp [intOf]; omega
      · gi_wp2
        refine bodyPost_ret (results_none rfl _ _ _) rfl ?_
        exact ⟨⟨_, rfl⟩, .inr ⟨_, by rw [first8_succ k hk8]; exact first8_pre _, hJx3⟩⟩
    · have hJ8 : J (List.finRange 8) wr := by
        obtain rfl : k = 8 := by omega
        exact hJ
      have hk' : 8 ≤ k := by omega
      gi_wp2
      go_end0
      exact ⟨⟨_, rfl⟩, .inl ⟨_, rfl, hJ8⟩⟩
theorem rows_in (F : Fence) (n : Nat) (h5 : F.fn 48) (hro : F.round = none) (w : World) :
    CallsIn F n Try.prog 48 #[] w fun e w' => e = .returned (.func (.func 63) #[] #[]) ∧ w' = w := by
  refine callsIn_of_wp Try.func48 rfl h5 ?_ hro
  simp only [Try.ntmps48, List.size_toArray, List.length_cons, List.length_nil, Nat.reduceAdd, Nat.reduceSub, Array.replicate_succ, Array.replicate_zero, List.push_toArray, List.append_toArray, List.nil_append, List.cons_append]
  gi_wp2
  go_ret
  exact ⟨rfl, rfl⟩
theorem rows_stops (F : Fence) (n : Nat) (h : F.fn 63) (hro : F.round = none) (hn : 1 ≤ n) (w : World) :
    SeqStopsK F n Try.prog 63 #[] (fun x : Fin 8 => #[Value.int .i64 ((x : Nat) : Int)]) Kp0 (fun ys => ys = List.finRange 8) (fun pre => pre <+: List.finRange 8) 8 w := fun l J Jx W _ _ _ hY h0 =>
  rows1_in F n h hro hn l J Jx hY W h0
end Mo
end Go.Proofs.Ytkeempljogjceaa
