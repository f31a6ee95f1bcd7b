/- The places of a line, one after another: the iterator of cosine. -/
import Derived.Test.YtpibeocngkjolaaGreatDoorMgArrB
import Derived.LoopIn
import Derived.LoopNIn
import Derived.OwnWalkIn
import Derived.RangeFuncBound
import Derived.RangeFuncCalls
import Derived.RangeFuncLeaves
import Derived.RangeFuncNested
import Derived.Shelf.Abstract
import Derived.TacticsInMore
import Derived.WalkKit
set_option linter.unusedVariables false
set_option linter.unusedSimpArgs false

namespace Go.Proofs.YtpibeocngkjolaaGreatDoor
open Go.RowKit Go.Shelf
attribute [local go_sem] Oper.semAt_some
namespace Co

/-- what a round must keep: two boxes. -/
def Kp2 (B1 B2 : Nat) (t : TypeId) (a s : Int) (W W' : World) : Prop :=
  (Boxed W B1 t (.int .i64 a) → Boxed W' B1 t (.int .i64 a)) ∧ (Boxed W B2 t (.int .i64 s) → Boxed W' B2 t (.int .i64 s))
theorem kp2_refl {B1 B2 : Nat} {t : TypeId} {a s : Int} (A : World) : Kp2 B1 B2 t a s A A := ⟨id, id⟩
theorem kp2_t {B1 B2 : Nat} {t : TypeId} {a s : Int} {A B C : World} (h : Kp2 B1 B2 t a s A B) (k : Kp2 B1 B2 t a s B C) : Kp2 B1 B2 t a s A C := ⟨fun x => k.1 (h.1 x), fun x => k.2 (h.2 x)⟩
theorem kp2_b {B1 B2 : Nat} {t : TypeId} {a s : Int} {w : World} (W : World) (l : Nat) (o o' : Obj) (_ : w.heap.size ≤ l) (h : W.heap[l]? = some o) (ho : o.isCells = false) (_ : o.isWalk = false) : Kp2 B1 B2 t a s W (W.putObj l o') :=
  ⟨fun hb => hb.kept (grownBy_putObj' W l o') (fun e => by cases e; rw [show W.heap[B1]? = _ from hb] at h; cases h; cases ho),
   fun hb => hb.kept (grownBy_putObj' W l o') (fun e => by cases e; rw [show W.heap[B2]? = _ from hb] at h; cases h; cases ho)⟩
/-- a turn of other blocks keeps them. -/
theorem kp2_grown {B1 B2 : Nat} {t : TypeId} {a s : Int} {A B : World} {row : Option Nat} (h : A.grownBy B row) (h1 : some B1 ≠ row) (h2 : some B2 ≠ row) : Kp2 B1 B2 t a s A B := ⟨fun x => x.kept h h1, fun x => x.kept h h2⟩
def first8 (k : Nat) : List (Fin 8) := (List.finRange 8).take k
theorem first8_succ (k : Nat) (h : k < 8) : first8 k ++ [⟨k, h⟩] = first8 (k + 1) := by
  rcases (by omega : k = 0 ∨ k = 1 ∨ k = 2 ∨ k = 3 ∨ k = 4 ∨ k = 5 ∨ k = 6 ∨ k = 7) with rfl | rfl | rfl | rfl | rfl | rfl | rfl | rfl <;> rfl
theorem first8_len (k : Nat) (h : k < 8) : (first8 k).length < 8 := by
  rcases (by omega : k = 0 ∨ k = 1 ∨ k = 2 ∨ k = 3 ∨ k = 4 ∨ k = 5 ∨ k = 6 ∨ k = 7) with rfl | rfl | rfl | rfl | rfl | rfl | rfl | rfl <;> decide
theorem first8_pre (k : Nat) : first8 k <+: List.finRange 8 := List.take_prefix k _
theorem first8_all : first8 8 = List.finRange 8 := rfl

set_option maxRecDepth 100000 in
set_option maxHeartbeats 1000000 in
theorem strided1_in (F : Fence) (n : Nat) (h55 : F.fn 119) (hro : F.round = none) (hn : 1 ≤ n) (l B1 B2 : Nat) (a s : Int) (_ha : 0 ≤ a ∧ a ≤ 100) (_hs : 0 ≤ s ∧ s ≤ 100) (J Jx : List (Fin 8) → World → Prop)
    (hY : ∀ pre (x : Fin 8) W, J pre W → pre.length < 8 → YieldAt F (n - 1) Tryz.prog l #[.int .i64 ((x : Nat) : Int), .int .i64 (a + ((x : Nat) : Int) * s)] W fun e W' =>
      (e = .returned (.bool true) ∧ J (pre ++ [x]) W' ∧ Kp2 B1 B2 3 a s W W') ∨ (e = .returned (.bool false) ∧ Jx (pre ++ [x]) W'))
    (W : World) (hb1 : Boxed W B1 3 (.int .i64 a)) (hb2 : Boxed W B2 3 (.int .i64 s)) (h0 : J [] W) :
    CallsIn F n Tryz.prog 119 #[.func (.yield l) #[] #[], .pointer (some ⟨B1, 0, none⟩), .pointer (some ⟨B2, 0, none⟩)] W fun e W' => (∃ v, e = .returned v) ∧
      ((∃ ys, ys = List.finRange 8 ∧ J ys W') ∨ (∃ pre, pre <+: List.finRange 8 ∧ Jx pre W')) := by
  refine callsIn_of_wp Tryz.func119 rfl h55 ?_ hro
  simp only [Tryz.ntmps119, List.size_toArray, List.length_cons, List.length_nil, Nat.reduceAdd, Nat.reduceSub, Array.replicate_succ, Array.replicate_zero, List.push_toArray, List.append_toArray, List.nil_append, List.cons_append]
  gi_wp2
  gi_loopw [5] (fun i wr => ∃ k : Nat, k ≤ 8 ∧ i = .int .i64 k ∧ Boxed wr B1 3 (.int .i64 a) ∧ Boxed wr B2 3 (.int .i64 s) ∧ J (first8 k) wr)
    (fun i _ => 8 - (intOf i).toNat)
  case atStart => exact ⟨0, by omega, rfl, hb1, hb2, h0⟩
  case round =>
    obtain ⟨k, hk, rfl, b1, b2, hJ⟩ := hrel
    by_cases hk8 : k < 8
    · have c1 := b1.cell
      have c2 := b2.cell
      have m1 : (0 : Int) ≤ (k : Int) * s ∧ (k : Int) * s ≤ 800 := by
        refine ⟨Int.mul_nonneg (by omega) (by omega), ?_⟩
        have := Int.mul_le_mul (show (k : Int) ≤ 8 by omega) _hs.2 _hs.1 (by omega)
        omega
      obtain ⟨fn, tmps, assign, body, hy, hR⟩ := hY (first8 k) ⟨k, hk8⟩ wr hJ (first8_len k hk8)
      dsimp only at hy
      gi_wp2
      refine hR.mono ?_
      rintro e W3 (⟨rfl, hJ3, hk3⟩ | ⟨rfl, hJx3⟩)
      · gi_wp2
        go_roundw
        case rel => exact ⟨k + 1, by omega, by go_num, hk3.1 b1, hk3.2 b2, by rw [← first8_succ k hk8]; exact hJ3⟩
        case measure => simp [intOf]; omega
      · gi_wp2
        refine bodyPost_ret (results_none rfl _ _ _) rfl ?_
        exact ⟨⟨_, rfl⟩, .inr ⟨_, by rw [first8_succ k hk8]; exact first8_pre _, hJx3⟩⟩
    · have hJ8 : J (List.finRange 8) wr := by
        obtain rfl : k = 8 := by omega
        exact hJ
      have hk' : 8 ≤ k := by omega
      gi_wp2
      go_end0
      exact ⟨⟨_, rfl⟩, .inl ⟨_, rfl, hJ8⟩⟩

set_option maxHeartbeats 1000000 in
/-- strided: both numbers are boxed; the function value captures the boxes. -/
theorem strided_in (F : Fence) (n : Nat) (h5 : F.fn 102) (hro : F.round = none) (a s : Int) (w : World) :
    CallsIn F n Tryz.prog 102 #[.int .i64 a, .int .i64 s] w fun e w' => e = .returned (.func (.func 119) #[] #[.pointer (some ⟨w.heap.size, 0, none⟩), .pointer (some ⟨w.heap.size + 1, 0, none⟩)]) ∧ w' = (w.alloc (.cells #[.int .i64 a] 3)).alloc (.cells #[.int .i64 s] 3) := by
  refine callsIn_of_wp Tryz.func102 rfl h5 ?_ hro
  simp only [Tryz.ntmps102, List.size_toArray, List.length_cons, List.length_nil, Nat.reduceAdd, Nat.reduceSub, Array.replicate_succ, Array.replicate_zero, List.push_toArray, List.append_toArray, List.nil_append, List.cons_append]
  gi_wp2
  go_ret
  exact ⟨rfl, rfl⟩

/-- the value it hands back tells eight places, in order; or some of them, where a round has said 'no more'. -/
theorem strided_stops (F : Fence) (n : Nat) (h : F.fn 119) (hro : F.round = none) (hn : 1 ≤ n) (B1 B2 : Nat) (a s : Int) (ha : 0 ≤ a ∧ a ≤ 100) (hs : 0 ≤ s ∧ s ≤ 100) (w : World)
    (h1 : Boxed w B1 3 (.int .i64 a)) (h2 : Boxed w B2 3 (.int .i64 s)) :
    SeqStopsK F n Tryz.prog 119 #[.pointer (some ⟨B1, 0, none⟩), .pointer (some ⟨B2, 0, none⟩)] (fun x : Fin 8 => #[Value.int .i64 ((x : Nat) : Int), .int .i64 (a + ((x : Nat) : Int) * s)]) (Kp2 B1 B2 3 a s) (fun ys => ys = List.finRange 8) (fun pre => pre <+: List.finRange 8) 8 w := fun l J Jx W hW _ _ hY h0 =>
  strided1_in F n h hro hn l B1 B2 a s ha hs J Jx hY W ((hW.block B1 h1.lt).trans h1) ((hW.block B2 h2.lt).trans h2) h0
end Co
end Go.Proofs.YtpibeocngkjolaaGreatDoor
