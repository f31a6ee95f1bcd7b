/- motion: the numbers 0 to 7, one after another. | motion: what is fetched; why nothing is. -/
import Derived.Test.YtbmglemjfodfhaaGreatMgMo3
import Derived.LoopIn
import Derived.LoopNIn
import Derived.OwnWalkIn
import Derived.RangeFuncBound
import Derived.RangeFuncCalls
import Derived.RangeFuncLeaves
import Derived.RangeFuncNested
import Derived.Scope
import Derived.Shelf.Abstract
import Derived.TacticsInMore
import Derived.WalkKit
set_option linter.unusedVariables false
set_option linter.unusedSimpArgs false
namespace Go.Proofs.YtbmglemjfodfhaaGreat
open Go.RowKit Go.Shelf
attribute [local go_sem] Oper.semAt_some
namespace Mo
def first8 (k : Nat) : List (Fin 8) := (List.finRange 8).take k
theorem first8_succ (k : Nat) (h : k < 8) : first8 k ++ [⟨k, h⟩] = first8 (k + 1) := by
  rcases (by omega : k = 0 ∨ k = 1 ∨ k = 2 ∨ k = 3 ∨ k = 4 ∨ k = 5 ∨ k = 6 ∨ k = 7) with rfl | rfl | rfl | rfl | rfl | rfl | rfl | rfl <;> rfl
theorem first8_len (k : Nat) (h : k < 8) : (first8 k).length < 8 := by
  rcases (by omega : k = 0 ∨ k = 1 ∨ k = 2 ∨ k = 3 ∨ k = 4 ∨ k = 5 ∨ k = 6 ∨ k = 7) with rfl | rfl | rfl | rfl | rfl | rfl | rfl | rfl <;> decide
theorem first8_pre (k : Nat) : first8 k <+: List.finRange 8 := List.take_prefix k _
theorem first8_all : first8 8 = List.finRange 8 := rfl
def Kp0 (_ _ : World) : Prop := True
theorem kp0_t {A B C : World} (_ : Kp0 A B) (_ : Kp0 B C) : Kp0 A C := trivial
theorem kp0_b {w : World} (W : World) (l : Nat) (o o' : Obj) (_ : w.heap.size ≤ l) (_ : W.heap[l]? = some o) (_ : o.isCells = false) (_ : o.isWalk = false) : Kp0 W (W.putObj l o') := trivial
set_option maxRecDepth 100000 in
set_option maxHeartbeats 1000000 in
theorem rows1_in (F : Fence) (n : Nat) (hf : F.fn 133) (hro : F.round = none) (_hn : 1 ≤ n) (l : Nat) (J Jx : List (Fin 8) → World → Prop)
    (hY : ∀ pre (x : Fin 8) W, J pre W → pre.length < 8 → YieldAt F (n - 1) Tryz.prog l #[.int .i64 ((x : Nat) : Int)] W fun e W' =>
      (e = .returned (.bool true) ∧ J (pre ++ [x]) W' ∧ True) ∨ (e = .returned (.bool false) ∧ Jx (pre ++ [x]) W'))
    (W : World) (h0 : J [] W) :
    CallsIn F n Tryz.prog 133 #[.func (.yield l) #[] #[]] W fun e W' => (∃ v, e = .returned v) ∧
      ((∃ ys, ys = List.finRange 8 ∧ J ys W') ∨ (∃ pre, pre <+: List.finRange 8 ∧ Jx pre W')) := by
  refine callsIn_of_wp Tryz.func133 rfl hf ?_ hro
  simp only [Tryz.ntmps133, List.size_toArray, List.length_cons, List.length_nil, Nat.reduceAdd, Nat.reduceSub, Array.replicate_succ, Array.replicate_zero, List.push_toArray, List.append_toArray, List.nil_append, List.cons_append]
  gi_wp2
  gi_loopw [3] (fun i wr => ∃ k : Nat, k ≤ 8 ∧ i = .int .i64 k ∧ J (first8 k) wr)
    (fun i _ => 8 - (intOf i).toNat)
  case atStart => exact ⟨0, by omega, rfl, h0⟩
  case round =>
    obtain ⟨k, hk, rfl, hJ⟩ := hrel
    by_cases hk8 : k < 8
    · have kb : (0 : Int) ≤ (k : Int) ∧ (k : Int) < 8 := by omega
      obtain ⟨fn, tmps, assign, body, hy, hR⟩ := hY (first8 k) ⟨k, hk8⟩ wr hJ (first8_len k hk8)
      dsimp only at hy
      gi_wp2
      refine hR.mono ?_
      rintro e W3 (⟨rfl, hJ3, _⟩ | ⟨rfl, hJx3⟩)
      · gi_wp2
        go_roundw
        case rel => exact ⟨k + 1, by omega, by go_num, by rw [← first8_succ k hk8]; exact hJ3⟩
        case measure => simp [intOf]; omega
      · gi_wp2
        refine bodyPost_ret (results_none rfl _ _ _) rfl ?_
        exact ⟨⟨_, rfl⟩, .inr ⟨_, by rw [first8_succ k hk8]; exact first8_pre _, hJx3⟩⟩
    · have hJ8 : J (List.finRange 8) wr := by
        obtain rfl : k = 8 := by omega
        exact hJ
      have hk' : 8 ≤ k := by omega
      gi_wp2
      go_end0
      exact ⟨⟨_, rfl⟩, .inl ⟨_, rfl, hJ8⟩⟩
theorem rows_in (F : Fence) (n : Nat) (h5 : F.fn 90) (hro : F.round = none) (w : World) :
    CallsIn F n Tryz.prog 90 #[] w fun e w' => e = .returned (.func (.func 133) #[] #[]) ∧ w' = w := by
  refine callsIn_of_wp Tryz.func90 rfl h5 ?_ hro
  simp only [Tryz.ntmps90, List.size_toArray, List.length_cons, List.length_nil, Nat.reduceAdd, Nat.reduceSub, Array.replicate_succ, Array.replicate_zero, List.push_toArray, List.append_toArray, List.nil_append, List.cons_append]
  gi_wp2
  go_ret
  exact ⟨rfl, rfl⟩
theorem rows_stops (F : Fence) (n : Nat) (h : F.fn 133) (hro : F.round = none) (hn : 1 ≤ n) (w : World) :
    SeqStopsK F n Tryz.prog 133 #[] (fun x : Fin 8 => #[Value.int .i64 ((x : Nat) : Int)]) Kp0 (fun ys => ys = List.finRange 8) (fun pre => pre <+: List.finRange 8) 8 w := fun l J Jx W _ _ _ hY h0 =>
  rows1_in F n h hro hn l J Jx hY W h0
end Mo
end Go.Proofs.YtbmglemjfodfhaaGreat
namespace Go.Proofs.YtbmglemjfodfhaaGreat
open Go.RowKit
namespace Mo
open Fr
theorem alloc_old (w : World) (o : Obj) (i : Nat) (h : i < w.heap.size) : (w.alloc o).heap[i]? = w.heap[i]? := ((Below.refl w.heap.size w).alloc (Nat.le_refl _) o).block i h
def fetE (N n g a k x y : Int) : Int := if cE n g a ≠ 0 then cE n g a else if N ≠ zV n then 2 else if k < 1 ∨ 6 < k then 3 else vE n g a x y
def pW (n k : Int) : Int := if k ≤ 4 then wV n else wV n / 2
def pH (n k : Int) : Int := if k ≤ 4 then hV n else hV n / 2
def pD (n k : Int) : Int := if k ≤ 4 then 0 else if k = 5 then wV n * hV n else wV n * hV n + wV n * hV n / 4
def pX (n g a k x : Int) : Int := if k ≤ 4 then cX n g a + (k - 1) % 2 * 8 + x else cX n g a / 2 + x.tdiv 2
def pY (n g a k y : Int) : Int := if k ≤ 4 then cY n g a + (k - 1) / 2 * 8 + y else cY n g a / 2 + y.tdiv 2
def fetF (f : Nat → Int) (n g a k x y : Int) (i : Nat) : Int := f (pD n k + (pY n g a k y + (i / 8 : Nat)) * pW n k + pX n g a k x + (i % 8 : Nat)).toNat
theorem tdiv2 (x : Int) : (0 ≤ x → x.tdiv 2 = x / 2) ∧ (x < 0 → x.tdiv 2 = -((-x) / 2)) := by
  refine ⟨fun h => Int.tdiv_eq_ediv_of_nonneg h, fun h => ?_⟩
  have e := Int.neg_tdiv (a := -x) (b := 2)
  rw [Int.neg_neg] at e
  rw [e, Int.tdiv_eq_ediv_of_nonneg (by omega)]
theorem cXY_even (n g a : Int) : cX n g a % 16 = 0 ∧ cY n g a % 16 = 0 := by
  unfold cX cY
  constructor <;> split <;> (try split) <;> omega
theorem vE_zero {n g a x y : Int} (h : vE n g a x y = 0) : cE n g a = 0 ∧ (-15 ≤ x ∧ x ≤ 15 ∧ -15 ≤ y ∧ y ≤ 15) ∧ 0 ≤ cX n g a + x ∧ cX n g a + x + 16 ≤ wV n ∧ 0 ≤ cY n g a + y ∧ cY n g a + y + 16 ≤ hV n := by
  unfold vE at h
  by_cases h1 : cE n g a = 0
  · rw [if_neg (by omega)] at h
    by_cases h2 : x < -15 ∨ 15 < x ∨ y < -15 ∨ 15 < y
    · rw [if_pos h2] at h; omega
    · rw [if_neg h2] at h
      by_cases h3 : cX n g a + x < 0 ∨ wV n < cX n g a + x + 16 ∨ cY n g a + y < 0 ∨ hV n < cY n g a + y + 16
      · rw [if_pos h3] at h; omega
      · exact ⟨h1, by omega, by omega⟩
  · rw [if_pos h1] at h; omega
theorem wh_cases (n : Int) (h : n = 0 ∨ n = 1) : (wV n = 176 ∧ hV n = 144 ∧ zV n = 38016) ∨ (wV n = 352 ∧ hV n = 288 ∧ zV n = 152064) := by rcases h with rfl | rfl <;> decide
theorem pXY_in {n g a k x y : Int} (hv : vE n g a x y = 0) (hk : 1 ≤ k ∧ k ≤ 6) : 0 ≤ pX n g a k x ∧ pX n g a k x + 8 ≤ pW n k ∧ 0 ≤ pY n g a k y ∧ pY n g a k y + 8 ≤ pH n k := by
  obtain ⟨h1, h2, h3, h4, h5, h6⟩ := vE_zero hv
  have e := cXY_even n g a
  have w := wh_cases n (cE_cases n g a h1).1
  have b1 := cX_bd n g a h1
  have b2 := cY_bd n g a h1
  have t1 := tdiv2 x
  have t2 := tdiv2 y
  unfold pX pY pW pH
  by_cases hk4 : k ≤ 4
  · simp only [if_pos hk4]; omega
  · simp only [if_neg hk4]
    rcases Int.lt_or_le x 0 with hx | hx
    · rw [t1.2 hx]
      rcases Int.lt_or_le y 0 with hy | hy
      · rw [t2.2 hy]; omega
      · rw [t2.1 hy]; omega
    · rw [t1.1 hx]
      rcases Int.lt_or_le y 0 with hy | hy
      · rw [t2.2 hy]; omega
      · rw [t2.1 hy]; omega
theorem pD_in {n k : Int} (hn : n = 0 ∨ n = 1) (hk : 1 ≤ k ∧ k ≤ 6) : 0 ≤ pD n k ∧ pD n k + pW n k * pH n k ≤ zV n ∧ 0 ≤ pW n k ∧ pW n k ≤ 352 ∧ 0 ≤ pH n k ∧ pH n k ≤ 288 := by
  have : k = 1 ∨ k = 2 ∨ k = 3 ∨ k = 4 ∨ k = 5 ∨ k = 6 := by omega
  rcases hn with rfl | rfl <;> rcases this with rfl | rfl | rfl | rfl | rfl | rfl <;> decide
theorem heap_a3 (w w1 : World) {cs c1 c2 : Array Value} {t t1 t2 : TypeId} (o1 o2 o3 : Obj) (hB : Below (((w.alloc o1).alloc o2).alloc o3).heap.size (((w.alloc o1).alloc o2).alloc o3) w1) (e1 : o1 = .cells cs t (0, 0) := by rfl) (e2 : o2 = .cells c1 t1 (0, 0) := by rfl) (e3 : o3 = .cells c2 t2 (0, 0) := by rfl) :
    w1.heap[w.heap.size]? = some (.cells cs t (0, 0)) ∧ w1.heap[w.heap.size + 1]? = some (.cells c1 t1 (0, 0)) ∧ w1.heap[w.heap.size + 1 + 1]? = some (.cells c2 t2 (0, 0)) := by
  subst e1 e2 e3
  have s : (((w.alloc (.cells cs t)).alloc (.cells c1 t1)).alloc (.cells c2 t2)).heap.size = w.heap.size + 3 := by simp
  refine ⟨(hB.block _ (by omega)).trans ?_, (hB.block _ (by omega)).trans ?_, (hB.block _ (by omega)).trans ?_⟩
  · rw [alloc_old _ _ _ (by simp; omega), alloc_old _ _ _ (by simp), heap_alloc_new]
  · rw [alloc_old _ _ _ (by simp), show w.heap.size + 1 = (w.alloc (.cells cs t)).heap.size by simp, heap_alloc_new]
  · rw [show w.heap.size + 1 + 1 = ((w.alloc (.cells cs t)).alloc (.cells c1 t1)).heap.size by simp, heap_alloc_new]
theorem cell_a2 {w : World} {b : Nat} {cs : Array Value} {t : TypeId} (h : w.heap[b]? = some (.cells cs t (0, 0))) (j : Nat) {v : Value} (hj : cs[j]? = some v) : ∀ o1 o2, ((w.alloc o1).alloc o2).cell? ⟨b, j, none⟩ = some v := by
  intro o1 o2
  have hlt := (Array.getElem?_eq_some_iff.1 h).1
  have e : ((w.alloc o1).alloc o2).heap[b]? = some (.cells cs t (0, 0)) := by rw [alloc_old _ _ _ (by simp; omega), alloc_old _ _ _ hlt, h]
  rw [cell_of_row _ _ j cs t (0, 0) e, hj]
theorem fetch_no1 (v : Value) (n g a k x y : Int) (N : Int) (w : World) (hc : cE n g a ≠ 0) :
    Calls Tryz.prog 48 #[v, .agg #[.int .i64 n, .int .i64 g, .int .i64 a], .int .i64 k, .int .i64 x, .int .i64 y] w fun e w' => e = .returned (.tuple #[.slice none 0 0, .int .i64 (fetE N n g a k x y)]) ∧ Below w.heap.size w w' := by
  have E : Hid (fetE N n g a k x y = cE n g a) := Lib.hid (by unfold fetE; rw [if_pos hc])
  have t0 : (cE n g a != 0) = true := by simpa using hc
  clear hc
  go_enter Tryz.func48, Tryz.ntmps48
  go_wp2_with fail
  refine wp_scope_straight ?_
  go_wp2_with (first
    | (go_at_call 86; refine (Corner_any n g a _).mono ?_; rintro e w1 ⟨rfl, hB⟩; have HB := Lib.hid (chain ((((Below.refl w.heap.size w).alloc (Nat.le_refl _) _).alloc (by simp) _).alloc (by simp; omega) _) hB); clear hB)
    | (go_at_call 73; refine (Size_any n _).mono ?_; rintro e w2 ⟨rfl, rfl⟩; skip)
    | (go_at_call 45; fail))
  simp only [Exit.noGoto]
  go_ret2
  exact ⟨by rw [E.out]; rfl, ((HB.out.alloc HB.out.size _).alloc (by have := HB.out.size; simp; omega) _)⟩
set_option maxRecDepth 100000 in
theorem fetch_no2 (o : Option Addr) (N c : Nat) (n g a k x y : Int) (w : World) (hc : cE n g a = 0) (hN : (N : Int) ≠ zV n) :
    Calls Tryz.prog 48 #[.slice o N c, .agg #[.int .i64 n, .int .i64 g, .int .i64 a], .int .i64 k, .int .i64 x, .int .i64 y] w fun e w' => e = .returned (.tuple #[.slice none 0 0, .int .i64 (fetE N n g a k x y)]) ∧ Below w.heap.size w w' := by
  have E : Hid (fetE N n g a k x y = 2) := Lib.hid (by unfold fetE; rw [if_neg (by omega), if_pos hN])
  obtain ⟨Z, hZ⟩ : ∃ Z, zV n = Z := ⟨_, rfl⟩
  rw [hZ] at hN
  have HZ := Lib.hid hZ
  have HC := Lib.hid hc
  have t1 : (((N : Nat) : Int) != Z) = true := by simpa using hN
  clear hc hZ hN
  go_enter Tryz.func48, Tryz.ntmps48
  go_wp2_with fail
  refine wp_scope_straight ?_
  go_wp2_with (first
    | (go_at_call 86; refine (Corner_any n g a _).mono ?_; rintro e w1 ⟨rfl, hB⟩; rw [HC.out]; have h6 := heap_a3 w w1 _ _ _ hB; have c60 := cell_a2 h6.1 0 rfl; have c61 := cell_a2 h6.1 1 rfl; have c62 := cell_a2 h6.1 2 rfl; have c8 := cell_a2 h6.2.1 0 rfl; have c9 := cell_a2 h6.2.2 0 rfl; clear h6; have HB := Lib.hid (chain ((((Below.refl w.heap.size w).alloc (Nat.le_refl _) _).alloc (by simp) _).alloc (by simp; omega) _) hB); clear hB)
    | (go_at_call 73; refine (Size_any n _).mono ?_; rintro e w2 ⟨rfl, rfl⟩; rw [HZ.out])
    | (go_at_call 45; fail))
  simp only [Exit.noGoto]
  go_ret2
  exact ⟨by rw [E.out]; rfl, ((HB.out.alloc HB.out.size _).alloc (by have := HB.out.size; simp; omega) _)⟩
set_option maxRecDepth 100000 in
theorem fetch_no3a (o : Option Addr) (N c : Nat) (n g a k x y : Int) (w : World) (hc : cE n g a = 0) (hN : (N : Int) = zV n) (hk : k < 1) :
    Calls Tryz.prog 48 #[.slice o N c, .agg #[.int .i64 n, .int .i64 g, .int .i64 a], .int .i64 k, .int .i64 x, .int .i64 y] w fun e w' => e = .returned (.tuple #[.slice none 0 0, .int .i64 (fetE N n g a k x y)]) ∧ Below w.heap.size w w' := by
  have E : Hid (fetE N n g a k x y = 3) := Lib.hid (by unfold fetE; rw [if_neg (by omega), if_neg (by omega), if_pos (by omega)])
  have HZ := Lib.hid hN
  have HC := Lib.hid hc
  have t1 : (((N : Nat) : Int) != ((N : Nat) : Int)) = false := by simp
  clear hc hN
  go_enter Tryz.func48, Tryz.ntmps48
  go_wp2_with fail
  refine wp_scope_straight ?_
  go_wp2_with (first
    | (go_at_call 86; refine (Corner_any n g a _).mono ?_; rintro e w1 ⟨rfl, hB⟩; rw [HC.out]; have h6 := heap_a3 w w1 _ _ _ hB; have c60 := cell_a2 h6.1 0 rfl; have c61 := cell_a2 h6.1 1 rfl; have c62 := cell_a2 h6.1 2 rfl; have c8 := cell_a2 h6.2.1 0 rfl; have c9 := cell_a2 h6.2.2 0 rfl; clear h6; have HB := Lib.hid (chain ((((Below.refl w.heap.size w).alloc (Nat.le_refl _) _).alloc (by simp) _).alloc (by simp; omega) _) hB); clear hB)
    | (go_at_call 73; refine (Size_any n _).mono ?_; rintro e w2 ⟨rfl, rfl⟩; rw [← HZ.out])
    | (go_at_call 45; fail))
  simp only [Exit.noGoto]
  go_ret2
  exact ⟨by rw [E.out]; rfl, ((HB.out.alloc HB.out.size _).alloc (by have := HB.out.size; simp; omega) _)⟩
set_option maxRecDepth 100000 in
theorem fetch_no3b (o : Option Addr) (N c : Nat) (n g a k x y : Int) (w : World) (hc : cE n g a = 0) (hN : (N : Int) = zV n) (hk : 6 < k) :
    Calls Tryz.prog 48 #[.slice o N c, .agg #[.int .i64 n, .int .i64 g, .int .i64 a], .int .i64 k, .int .i64 x, .int .i64 y] w fun e w' => e = .returned (.tuple #[.slice none 0 0, .int .i64 (fetE N n g a k x y)]) ∧ Below w.heap.size w w' := by
  have E : Hid (fetE N n g a k x y = 3) := Lib.hid (by unfold fetE; rw [if_neg (by omega), if_neg (by omega), if_pos (by omega)])
  have hk1 : ¬ k < 1 := by omega
  have HZ := Lib.hid hN
  have HC := Lib.hid hc
  have t1 : (((N : Nat) : Int) != ((N : Nat) : Int)) = false := by simp
  clear hc hN
  go_enter Tryz.func48, Tryz.ntmps48
  go_wp2_with fail
  refine wp_scope_straight ?_
  go_wp2_with (first
    | (go_at_call 86; refine (Corner_any n g a _).mono ?_; rintro e w1 ⟨rfl, hB⟩; rw [HC.out]; have h6 := heap_a3 w w1 _ _ _ hB; have c60 := cell_a2 h6.1 0 rfl; have c61 := cell_a2 h6.1 1 rfl; have c62 := cell_a2 h6.1 2 rfl; have c8 := cell_a2 h6.2.1 0 rfl; have c9 := cell_a2 h6.2.2 0 rfl; clear h6; have HB := Lib.hid (chain ((((Below.refl w.heap.size w).alloc (Nat.le_refl _) _).alloc (by simp) _).alloc (by simp; omega) _) hB); clear hB)
    | (go_at_call 73; refine (Size_any n _).mono ?_; rintro e w2 ⟨rfl, rfl⟩; rw [← HZ.out])
    | (go_at_call 45; fail))
  simp only [Exit.noGoto]
  go_ret2
  exact ⟨by rw [E.out]; rfl, ((HB.out.alloc HB.out.size _).alloc (by have := HB.out.size; simp; omega) _)⟩
set_option maxRecDepth 100000 in
theorem fetch_no4 (o : Option Addr) (N c : Nat) (n g a k x y : Int) (w : World) (hc : cE n g a = 0) (hN : (N : Int) = zV n) (hk : 1 ≤ k ∧ k ≤ 6) (hx : (Lit.int .i64 x).wf = true) (hy : (Lit.int .i64 y).wf = true) (hv : vE n g a x y ≠ 0) :
    Calls Tryz.prog 48 #[.slice o N c, .agg #[.int .i64 n, .int .i64 g, .int .i64 a], .int .i64 k, .int .i64 x, .int .i64 y] w fun e w' => e = .returned (.tuple #[.slice none 0 0, .int .i64 (fetE N n g a k x y)]) ∧ Below w.heap.size w w' := by
  have E : Hid (fetE N n g a k x y = vE n g a x y) := Lib.hid (by unfold fetE; rw [if_neg (by omega), if_neg (by omega), if_neg (by omega)])
  have t2 : (vE n g a x y != 0) = true := by simpa using hv
  have HZ := Lib.hid hN
  have HC := Lib.hid hc
  have t1 : (((N : Nat) : Int) != ((N : Nat) : Int)) = false := by simp
  clear hc hN
  have WX := Lib.hid hx
  have WY := Lib.hid hy
  clear hx hy hv
  go_enter Tryz.func48, Tryz.ntmps48
  go_wp2_with fail
  refine wp_scope_straight ?_
  go_wp2_with (first
    | (go_at_call 86; refine (Corner_any n g a _).mono ?_; rintro e w1 ⟨rfl, hB⟩; rw [HC.out]; have h6 := heap_a3 w w1 _ _ _ hB; have c60 := cell_a2 h6.1 0 rfl; have c61 := cell_a2 h6.1 1 rfl; have c62 := cell_a2 h6.1 2 rfl; have c8 := cell_a2 h6.2.1 0 rfl; have c9 := cell_a2 h6.2.2 0 rfl; clear h6; have HB := Lib.hid (chain ((((Below.refl w.heap.size w).alloc (Nat.le_refl _) _).alloc (by simp) _).alloc (by simp; omega) _) hB); have z1 := hB.size; clear hB)
    | (go_at_call 73; refine (Size_any n _).mono ?_; rintro e w2 ⟨rfl, rfl⟩; rw [← HZ.out])
    | (go_at_call 45; refine (Fits_any n g a x y _ WX.out WY.out).mono ?_; rintro e w3 ⟨rfl, hB⟩; have HB := Lib.hid (chain ((HB.out.alloc HB.out.size _).alloc (by have := HB.out.size; simp; omega) _) hB); clear hB))
  simp only [Exit.noGoto]
  go_ret2
  exact ⟨by rw [E.out]; rfl, HB.out⟩
end Mo
end Go.Proofs.YtbmglemjfodfhaaGreat
