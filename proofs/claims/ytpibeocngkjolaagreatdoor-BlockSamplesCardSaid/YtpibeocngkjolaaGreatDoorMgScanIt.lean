/- The places of the order, one after another: the iterator of scan; the order as an array. -/
import Derived.Test.YtpibeocngkjolaaGreatDoorMgArrB
import Derived.Test.YtpibeocngkjolaaGreatDoorScopeIn
import Derived.LoopIn
import Derived.LoopNIn
import Derived.OwnWalkIn
import Derived.RangeFuncBound
import Derived.RangeFuncCalls
import Derived.RangeFuncLeaves
import Derived.RangeFuncNested
import Derived.Shelf.Abstract
import Derived.TacticsInMore
import Derived.WalkKit
set_option linter.unusedVariables false
set_option linter.unusedSimpArgs false

namespace Go.Proofs.YtpibeocngkjolaaGreatDoor
open Go.RowKit Go.Shelf
attribute [local go_sem] Oper.semAt_some
namespace Sc

/-- the order of the places. -/
def scanN : List Nat := [0, 1, 8, 16, 9, 2, 3, 10, 17, 24, 32, 25, 18, 11, 4, 5, 12, 19, 26, 33, 40, 48, 41, 34, 27, 20, 13, 6, 7, 14, 21, 28, 35, 42, 49, 56, 57, 50, 43, 36, 29, 22, 15, 23, 30, 37, 44, 51, 58, 59, 52, 45, 38, 31, 39, 46, 53, 60, 61, 54, 47, 55, 62, 63]
def scanL : List (Fin 64) := scanN.map fun n => ⟨n % 64, Nat.mod_lt _ (by decide)⟩
def at' (k : Nat) : Nat := scanN.getD k 0
theorem at_lt0 : ∀ k, k < 64 → at' k < 64 := by decide
theorem scan_take0 : ∀ k, (h : k < 64) → scanL.take k ++ [⟨at' k, at_lt0 k h⟩] = scanL.take (k + 1) := by decide
theorem scan_len0 : ∀ k, k < 64 → (scanL.take k).length < 64 := by decide
/-- how many places stand ahead of a diagonal; and ahead of its i-th step. -/
def start (d : Nat) : Nat := if d ≤ 8 then d * (d + 1) / 2 else 64 - (15 - d) * (16 - d) / 2
def off (d i : Nat) : Nat := if d % 2 = 0 then i - (d - 7) else if d ≤ 7 then i - (7 - d) else min i (15 - d)
/-- even diagonals: step i is at column i. -/
theorem even_in : ∀ d, d < 15 → ∀ i, i < 8 → (d % 2 = 0 ∧ i ≤ d ∧ d - i ≤ 7) → at' (start d + off d i) = 8 * (d - i) + i ∧ off d (i + 1) = off d i + 1 ∧ start d + off d i < 64 := by decide
theorem even_out : ∀ d, d < 15 → ∀ i, i < 8 → d % 2 = 0 → i ≤ d → ¬ d - i ≤ 7 → off d (i + 1) = off d i := by decide
theorem even_stop : ∀ d, d < 8 → d % 2 = 0 → start (d + 1) = start d + off d d + 1 := by decide
theorem even_end : ∀ d, d < 15 → 8 ≤ d → d % 2 = 0 → start (d + 1) = start d + off d 8 := by decide
/-- odd ones: at column 7 - i. -/
theorem odd_in : ∀ d, d < 15 → ∀ i, i < 8 → (d % 2 = 1 ∧ 7 ≤ d + i ∧ d + i ≤ 14) → at' (start d + off d i) = 8 * (d + i - 7) + (7 - i) ∧ off d (i + 1) = off d i + 1 ∧ start d + off d i < 64 := by decide
theorem odd_out : ∀ d, d < 15 → ∀ i, i < 8 → d % 2 = 1 → ¬ (7 ≤ d + i ∧ d + i ≤ 14) → off d (i + 1) = off d i := by decide
theorem odd_stop : ∀ d, d < 8 → d % 2 = 1 → start (d + 1) = start d + off d 7 + 1 := by decide
theorem odd_end : ∀ d, d < 15 → 8 ≤ d → d % 2 = 1 → start (d + 1) = start d + off d 8 := by decide
theorem start_off : ∀ d, d < 15 → start d + off d 0 = start d := by decide
theorem start_end : start 15 = 64 := rfl
theorem take_all : scanL.take 64 = scanL := rfl
theorem scan_step (m : Nat) (hm : m < 64) : scanL.take m ++ [⟨at' m, at_lt0 m hm⟩] = scanL.take (m + 1) := scan_take0 m hm

set_option maxRecDepth 100000 in
set_option maxHeartbeats 4000000 in
theorem order1_in (F : Fence) (n : Nat) (hf : F.fn 115) (hro : F.round = none) (_hn : 1 ≤ n) (l : Nat) (J Jx : List (Fin 64) → World → Prop)
    (hY : ∀ pre (x : Fin 64) W, J pre W → pre.length < 64 → YieldAt F (n - 1) Tryz.prog l #[.int .i64 ((x : Nat) : Int)] W fun e W' =>
      (e = .returned (.bool true) ∧ J (pre ++ [x]) W' ∧ True) ∨ (e = .returned (.bool false) ∧ Jx (pre ++ [x]) W'))
    (W : World) (h0 : J [] W) :
    CallsIn F n Tryz.prog 115 #[.func (.yield l) #[] #[]] W fun e W' => (∃ v, e = .returned v) ∧
      ((∃ ys, ys = scanL ∧ J ys W') ∨ (∃ pre, pre <+: scanL ∧ Jx pre W')) := by
  refine callsIn_of_wp Tryz.func115 rfl hf ?_ hro
  simp only [Tryz.ntmps115, List.size_toArray, List.length_cons, List.length_nil, Nat.reduceAdd, Nat.reduceSub, Array.replicate_succ, Array.replicate_zero, List.push_toArray, List.append_toArray, List.nil_append, List.cons_append]
  gi_wp2
  refine wpIn_scope_straight ?_
  gi_wp2
  refine wpIn_label ?_
  gi_wp2
  gi_loopw [6] (fun i wr => ∃ d : Nat, d ≤ 15 ∧ i = .int .i64 d ∧ J (scanL.take (start d)) wr)
    (fun i _ => 15 - (intOf i).toNat)
  case atStart => exact ⟨0, by omega, rfl, h0⟩
  case round =>
    obtain ⟨d, hd, rfl, hJ⟩ := hrel
    by_cases hd15 : d < 15
    · have db : (0 : Int) ≤ (d : Int) ∧ (d : Int) < 15 := by omega
      rw [← start_off d hd15] at hJ
      gi_wp2
      gi_loopw [9] (fun i wr => ∃ k : Nat, k ≤ 8 ∧ i = .int .i64 k ∧ (d ≤ 7 → k ≤ 7) ∧ (d % 2 = 0 → k ≤ d) ∧ J (scanL.take (start d + off d k)) wr)
        (fun i _ => 8 - (intOf i).toNat)
      case atStart => exact ⟨0, by omega, rfl, fun _ => by omega, fun _ => by omega, hJ⟩
      case round =>
        obtain ⟨k, hk, rfl, hk1, hk2, hJ⟩ := hrel
        by_cases hk8 : k < 8
        · have kb : (0 : Int) ≤ (k : Int) ∧ (k : Int) < 8 := by omega
          rcases Nat.mod_two_eq_zero_or_one d with hp | hp
          · have hkd := hk2 hp
            have tp : (d : Int).tmod 2 = 0 := by rw [Int.tmod_eq_emod_of_nonneg (by omega)]; omega
            by_cases hin : d - k ≤ 7
            · obtain ⟨f1, f2, f3⟩ := even_in d hd15 k hk8 ⟨hp, hkd, hin⟩
              obtain ⟨fn, tmps, assign, body, hy, hR⟩ := hY (scanL.take (start d + off d k)) ⟨at' (start d + off d k), at_lt0 _ f3⟩ wr hJ (scan_len0 _ f3)
              dsimp only at hy
              rw [scan_step _ f3] at hR
              have d1 : decide (7 < (d : Int) - (k : Int)) = false := by simp; omega
              have d2 : decide ((d : Int) - (k : Int) < 0) = false := by simp; omega
              have ev : 8 * ((d : Int) - (k : Int)) + (k : Int) = ((at' (start d + off d k) : Nat) : Int) := by rw [f1]; omega
              by_cases hst : k = d
              · rw [show ((at' (start d + off d k) : Nat) : Int) = (d : Int) by rw [f1]; omega] at hy
                clear f1 ev
                have d7 : d < 8 := by omega
                have st := even_stop d d7 hp
                have kd : (((d : Int) - (k : Int)) == 0) = true := by simp; omega
                gi_wp2
                refine hR.mono ?_
                rintro e W3 (⟨rfl, hJ3, _⟩ | ⟨rfl, hJx3⟩)
                · have hJ4 : J (scanL.take (start (d + 1))) W3 := by rw [st]; rw [hst] at hJ3; exact hJ3
                  gi_wp2
                  go_roundw
                  case rel => exact ⟨d + 1, by omega, by go_num, hJ4⟩
                  case measure => simp [intOf]; omega
                · gi_wp2
                  simp only [Exit.noGoto]
                  refine bodyPost_ret (results_none rfl _ _ _) rfl ?_
                  exact ⟨⟨_, rfl⟩, .inr ⟨_, List.take_prefix _ _, hJx3⟩⟩
              · have kd : (((d : Int) - (k : Int)) == 0) = false := by simp; omega
                clear f1
                gi_wp2
                refine hR.mono ?_
                rintro e W3 (⟨rfl, hJ3, _⟩ | ⟨rfl, hJx3⟩)
                · gi_wp2
                  go_roundw
                  case rel => exact ⟨k + 1, by omega, by go_num, fun _ => by omega, fun _ => by omega, by rw [f2]; exact hJ3⟩
                  case measure => simp [intOf]; omega
                · gi_wp2
                  simp only [Exit.noGoto]
                  refine bodyPost_ret (results_none rfl _ _ _) rfl ?_
                  exact ⟨⟨_, rfl⟩, .inr ⟨_, List.take_prefix _ _, hJx3⟩⟩
            · have f2 := even_out d hd15 k hk8 hp hkd hin
              have d1 : decide (7 < (d : Int) - (k : Int)) = true := by simp; omega
              gi_wp2
              go_roundw
              case rel => exact ⟨k + 1, by omega, by go_num, fun _ => by omega, fun _ => by omega, by rw [f2]; exact hJ⟩
              case measure => simp [intOf]; omega
          · have tp : (d : Int).tmod 2 = 1 := by rw [Int.tmod_eq_emod_of_nonneg (by omega)]; omega
            by_cases hin : 7 ≤ d + k ∧ d + k ≤ 14
            · obtain ⟨f1, f2, f3⟩ := odd_in d hd15 k hk8 ⟨hp, hin.1, hin.2⟩
              obtain ⟨fn, tmps, assign, body, hy, hR⟩ := hY (scanL.take (start d + off d k)) ⟨at' (start d + off d k), at_lt0 _ f3⟩ wr hJ (scan_len0 _ f3)
              dsimp only at hy
              rw [scan_step _ f3] at hR
              have d1 : decide (7 < (d : Int) - (7 - (k : Int))) = false := by simp; omega
              have d2 : decide ((d : Int) - (7 - (k : Int)) < 0) = false := by simp; omega
              have ev : 8 * ((d : Int) - (7 - (k : Int))) + (7 - (k : Int)) = ((at' (start d + off d k) : Nat) : Int) := by rw [f1]; omega
              by_cases hst : k = 7
              · rw [show ((at' (start d + off d k) : Nat) : Int) = 8 * (d : Int) by rw [f1]; omega] at hy
                clear f1 ev
                have d7 : d < 8 := by omega
                have st := odd_stop d d7 hp
                have kd : ((7 - (k : Int)) == 0) = true := by simp; omega
                gi_wp2
                refine hR.mono ?_
                rintro e W3 (⟨rfl, hJ3, _⟩ | ⟨rfl, hJx3⟩)
                · have hJ4 : J (scanL.take (start (d + 1))) W3 := by rw [st]; rw [hst] at hJ3; exact hJ3
                  gi_wp2
                  go_roundw
                  case rel => exact ⟨d + 1, by omega, by go_num, hJ4⟩
                  case measure => simp [intOf]; omega
                · gi_wp2
                  simp only [Exit.noGoto]
                  refine bodyPost_ret (results_none rfl _ _ _) rfl ?_
                  exact ⟨⟨_, rfl⟩, .inr ⟨_, List.take_prefix _ _, hJx3⟩⟩
              · have kd : ((7 - (k : Int)) == 0) = false := by simp; omega
                clear f1
                gi_wp2
                refine hR.mono ?_
                rintro e W3 (⟨rfl, hJ3, _⟩ | ⟨rfl, hJx3⟩)
                · gi_wp2
                  go_roundw
                  case rel => exact ⟨k + 1, by omega, by go_num, fun _ => by omega, fun h => by omega, by rw [f2]; exact hJ3⟩
                  case measure => simp [intOf]; omega
                · gi_wp2
                  simp only [Exit.noGoto]
                  refine bodyPost_ret (results_none rfl _ _ _) rfl ?_
                  exact ⟨⟨_, rfl⟩, .inr ⟨_, List.take_prefix _ _, hJx3⟩⟩
            · have f2 := odd_out d hd15 k hk8 hp hin
              have hJ' : J (scanL.take (start d + off d (k + 1))) wr := by rw [f2]; exact hJ
              have hd7 : d ≤ 7 → k + 1 ≤ 7 := fun h => by omega
              by_cases hlow : d + k < 7
              · have d1 : decide (7 < (d : Int) - (7 - (k : Int))) = false := by simp; omega
                have d2 : decide ((d : Int) - (7 - (k : Int)) < 0) = true := by simp; omega
                gi_wp2
                go_roundw
                case rel => exact ⟨k + 1, by omega, by go_num, hd7, fun h => by omega, hJ'⟩
                case measure => simp [intOf]; omega
              · have d1 : decide (7 < (d : Int) - (7 - (k : Int))) = true := by simp; omega
                gi_wp2
                go_roundw
                case rel => exact ⟨k + 1, by omega, by go_num, hd7, fun h => by omega, hJ'⟩
                case measure => simp [intOf]; omega
        · have hd8 : 8 ≤ d := by
            rcases Nat.lt_or_ge 7 d with h | h
            · exact h
            · have := hk1 h; omega
          have hJ4 : J (scanL.take (start (d + 1))) wr := by
            obtain rfl : k = 8 := by omega
            rcases Nat.mod_two_eq_zero_or_one d with hp | hp
            · rw [even_end d hd15 hd8 hp]; exact hJ
            · rw [odd_end d hd15 hd8 hp]; exact hJ
          have hk' : 8 ≤ k := by omega
          gi_wp2
          go_roundw
          case rel => exact ⟨d + 1, by omega, by go_num, hJ4⟩
          case measure => simp [intOf]; omega
    · have hJ4 : J scanL wr := by
        obtain rfl : d = 15 := by omega
        exact hJ
      have hd' : 15 ≤ d := by omega
      gi_wp2
      simp only [Exit.noGoto]
      go_end0
      exact ⟨⟨_, rfl⟩, .inl ⟨_, rfl, hJ4⟩⟩

set_option maxHeartbeats 1000000 in
theorem order_in (F : Fence) (n : Nat) (h5 : F.fn 97) (hro : F.round = none) (w : World) :
    CallsIn F n Tryz.prog 97 #[] w fun e w' => e = .returned (.func (.func 115) #[] #[]) ∧ w' = w := by
  refine callsIn_of_wp Tryz.func97 rfl h5 ?_ hro
  simp only [Tryz.ntmps97, List.size_toArray, List.length_cons, List.length_nil, Nat.reduceAdd, Nat.reduceSub, Array.replicate_succ, Array.replicate_zero, List.push_toArray, List.append_toArray, List.nil_append, List.cons_append]
  gi_wp2
  go_ret
  exact ⟨rfl, rfl⟩
/-- what a round must keep: nothing. -/
def Kp0 (_ _ : World) : Prop := True
theorem order_stops (F : Fence) (n : Nat) (h : F.fn 115) (hro : F.round = none) (hn : 1 ≤ n) (w : World) :
    SeqStopsK F n Tryz.prog 115 #[] (fun x : Fin 64 => #[Value.int .i64 ((x : Nat) : Int)]) Kp0 (fun ys => ys = scanL) (fun pre => pre <+: scanL) 64 w := fun l J Jx W _ _ _ hY h0 =>
  order1_in F n h hro hn l J Jx hY W h0
/-- a whole array is loaded, inside a fence. -/
theorem wpListIn_load_arr {F : Fence} {nn : Nat} {P : Program} {ops : Array Oper} {rest : List Oper} {o : Oper} {a : Act} {w : World} {Q : Exit → Act → World → Prop} (hgd : o.guard = none) (ty : TypeId) (x : Operand) (ho : o.op = .load ty x)
    {k : IntKind} {g n m : Nat} {f : Nat → Int} {e : TypeId} (hx : a.eval x = .pointer (some ⟨g, 0, none⟩)) (h : Arr w k g n f) (hu : P.underlying ty = some (.array m e)) (hi : (P.info? ty).map (·.size) = some n)
    (hK : wpListIn F nn P ops Q rest (a.put o.dst (.agg (rowOf k n f))) w) : wpListIn F nn P ops Q (o :: rest) a w := by
  refine wpListIn_plain hgd fun K hK' => ?_
  unfold Oper.wpIn
  refine ⟨?_, ?_⟩
  · simp [Oper.about, ho]
  · rw [Oper.semAt_plain F _ _ (by rw [ho]; intro c hc'; cases hc')]
    unfold execOp
    simp only [ho, hx, Instr.loadAt, Instr.sureAddr, Sem.run_bind, Sem.run_pure, Result.andThen_ok, run_loadVar_arr h hu hi]
    exact hK' _ _ hK
theorem wpListIn_store_arr {F : Fence} {nn : Nat} {P : Program} {ops : Array Oper} {rest : List Oper} {o : Oper} {a : Act} {w : World} {Q : Exit → Act → World → Prop} (hgd : o.guard = none) (ty : TypeId) (x y : Operand) (ho : o.op = .store ty x y)
    {k : IntKind} {g n : Nat} {f f' : Nat → Int} (hx : a.eval x = .pointer (some ⟨g, 0, none⟩)) (hy : a.eval y = .agg (rowOf k n f')) (h : Arr w k g n f) (hi : (P.info? ty).map (·.size) = some n)
    (hK : ∀ w', Hid (Arr w' k g n f') → Hid (w.grownBy w' (some g)) → wpListIn F nn P ops Q rest (a.put o.dst undef) w') : wpListIn F nn P ops Q (o :: rest) a w := by
  refine wpListIn_plain hgd fun K hK' => ?_
  unfold Oper.wpIn
  refine ⟨?_, ?_⟩
  · simp [Oper.about, ho]
  · rw [Oper.semAt_plain F _ _ (by rw [ho]; intro c hc'; cases hc')]
    unfold execOp
    simp only [ho, hx, hy, Instr.storeAt, Instr.sureAddr, Sem.run_bind, Sem.run_pure, Result.andThen_ok, run_storeVar_mid w g 0 ty (rowOf k n f') (by rw [rowOf_size]; exact h.there) (by rw [rowOf_size]; exact hi) (rowOf_one k n f')]
    exact hK' _ _ (hK _ (Lib.hid (h.storeAll k f')) (Lib.hid (grown_setCells g _ 0 w)))
theorem ownFrom_arr {β : Type} {B : Nat} (k : IntKind) (g n : Nat) (F : β → Nat → Int) (hg : g < B) : OwnFrom B (fun s W => Arr W k g n (F s)) :=
  fun _ _ _ _ hs hw hr => hs.grown hw (fun e => by have := (hr g e.symm).1; omega)
theorem ownFrom_grown {β : Type} {B : Nat} {w : World} (row : Option Nat) (hB : w.heap.size ≤ B) : OwnFrom B (fun (_ : β) W => w.grownBy W row) :=
  fun _ _ _ _ hs hw hr => ⟨hw.os.trans hs.os, hw.tape.trans hs.tape, hw.output.trans hs.output, Nat.le_trans hs.size hw.size,
    fun i hi hne => (hw.block i (Nat.lt_of_lt_of_le hi hs.size) (fun e => by have := (hr i e.symm).1; omega)).trans (hs.block i hi hne)⟩

end Sc
end Go.Proofs.YtpibeocngkjolaaGreatDoor
