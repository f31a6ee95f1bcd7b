/- paint: the rows of a block's place; Lay. -/
import Derived.Test.YtkeempljogjceaaCpy
import Derived.Test.YtkeempljogjceaaPlc
import Derived.Test.YtkeempljogjceaaBytes
namespace Go.Proofs.Ytkeempljogjceaa
open Go.RowKit Go.Shelf
attribute [local go_sem] Oper.semAt_some
namespace Pa
open Fr Pt

/-! ### what is laid -/
/-- a row of eight laid; one sample laid. -/
def putRow (A S : Nat) (s h : Nat → Int) (y : Nat) (i : Nat) : Int := if A + y * S ≤ i ∧ i < A + y * S + 8 then s (8 * y + (i - (A + y * S))) else h i
def putOne (A S : Nat) (s h : Nat → Int) (j : Nat) (i : Nat) : Int := if i = A + j / 8 * S + j % 8 then s j else h i
def layR (A S : Nat) (s f : Nat → Int) (pre : List (Fin 8)) : Nat → Int := pre.foldl (fun h y => putRow A S s h y.val) f
def layN (A S : Nat) (s f : Nat → Int) : Nat → Nat → Int
  | 0 => f
  | k + 1 => putOne A S s (layN A S s f k) k
theorem layR_snoc (A S : Nat) (s f : Nat → Int) (pre : List (Fin 8)) (y : Fin 8) : layR A S s f (pre ++ [y]) = putRow A S s (layR A S s f pre) y.val := by unfold layR; rw [List.foldl_append]; rfl
theorem put_row (A S : Nat) (s f : Nat → Int) (y : Nat) : ∀ k, k ≤ 8 → ∀ i, layN A S s f (8 * y + k) i = if A + y * S ≤ i ∧ i < A + y * S + k then s (8 * y + (i - (A + y * S))) else layN A S s f (8 * y) i
  | 0, _, i => by rw [if_neg (by omega)]; rfl
  | k + 1, hk, i => by
    have ih := put_row A S s f y k (by omega) i
    show putOne A S s (layN A S s f (8 * y + k)) (8 * y + k) i = _
    unfold putOne
    rw [show (8 * y + k) / 8 = y by omega, show (8 * y + k) % 8 = k by omega, ih]
    by_cases e : i = A + y * S + k
    · rw [if_pos e, if_pos (by omega), show i - (A + y * S) = k by omega]
    · rw [if_neg e]
      by_cases l : A + y * S ≤ i ∧ i < A + y * S + k
      · rw [if_pos l, if_pos (by omega)]
      · rw [if_neg l, if_neg (by omega)]
theorem putRow_eq (A S : Nat) (s f : Nat → Int) (y : Nat) : putRow A S s (layN A S s f (8 * y)) y = layN A S s f (8 * (y + 1)) := by
  funext i
  rw [show 8 * (y + 1) = 8 * y + 8 by omega, put_row A S s f y 8 (by omega) i]
  rfl
theorem layR_all (A S : Nat) (s f : Nat → Int) : layR A S s f (List.finRange 8) = layN A S s f 64 := by
  have e : ∀ k (hk : k ≤ 8), layR A S s f ((List.finRange 8).take k) = layN A S s f (8 * k) := by
    intro k
    induction k with
    | zero => intro _; rfl
    | succ k ih =>
      intro hk
      rw [List.take_succ_eq_append_getElem (by simp; omega), layR_snoc, ih (by omega), ← putRow_eq]
      simp
  have := e 8 (by omega)
  rwa [List.take_of_length_le (by simp)] at this
/-- places of a block are each another one, if rows are eight apart. -/
theorem lay_at (A S : Nat) (s f : Nat → Int) (hS : 8 ≤ S) (k j : Nat) (hj : j < k) : layN A S s f k (A + j / 8 * S + j % 8) = s j := by
  induction k with
  | zero => omega
  | succ k ih =>
    show putOne A S s (layN A S s f k) k _ = _
    unfold putOne
    by_cases e : j = k
    · subst e; rw [if_pos rfl]
    · rw [if_neg, ih (by omega)]
      intro h
      have h1 : j / 8 * S + j % 8 = k / 8 * S + k % 8 := by omega
      have : j / 8 = k / 8 := by
        rcases Nat.lt_trichotomy (j / 8) (k / 8) with l | l | l
        · have := Nat.mul_le_mul_right S (show j / 8 + 1 ≤ k / 8 by omega)
          rw [Nat.add_mul] at this
          omega
        · exact l
        · have := Nat.mul_le_mul_right S (show k / 8 + 1 ≤ j / 8 by omega)
          rw [Nat.add_mul] at this
          omega
      rw [this] at h1
      omega
theorem lay_off (A S : Nat) (s f : Nat → Int) (i : Nat) : ∀ k, (∀ j, j < k → i ≠ A + j / 8 * S + j % 8) → layN A S s f k i = f i
  | 0, _ => rfl
  | k + 1, h => by
    show putOne A S s (layN A S s f k) k _ = _
    unfold putOne
    rw [if_neg (h k (by omega)), lay_off A S s f i k (fun j hj => h j (by omega))]

/-! ### the iterator -/
def encR (g A S c : Nat) (y : Fin 8) : Array Value := #[.int .i64 (y.val : Int), .slice (some ⟨g, A + y.val * S, none⟩) 8 (c - (A + y.val * S))]
theorem rows_in (v : Value) (a : Option Addr) (N c : Nat) (hv : v = .slice a N c) (A S : Int) (m : Nat) (w : World) :
    CallsIn Fence.wide m Try.prog 40 #[v, .int .i64 A, .int .i64 S] w fun e w' => e = .returned (.func (.func 56) #[] #[.pointer (some ⟨w.heap.size, 0, none⟩), .pointer (some ⟨w.heap.size + 1, 0, none⟩), .pointer (some ⟨w.heap.size + 2, 0, none⟩)])
      ∧ w' = ((w.alloc (.cells #[v] 24)).alloc (.cells #[.int .i64 A] 3)).alloc (.cells #[.int .i64 S] 3) := by
  subst hv
  refine callsIn_wide.2 ?_
  go_enter Try.func40, Try.ntmps40
  go_wp2
  go_ret
  exact ⟨rfl, rfl⟩
theorem slice_row (g q N c o : Nat) (h1 : o + 8 ≤ N) (h2 : N ≤ c) (w : World) : (Instr.slice 24 (.slice (some ⟨g, q, none⟩) N c) (some (.int .i64 (o : Int))) (some (.int .i64 ((o : Int) + 8))) none).run Try.prog w = .ok (.slice (some ⟨g, q + o, none⟩) 8 (c - o)) w := by
  have ht : Try.prog.underlying 24 = some (.slice (Try.prog.elem 24)) := by kernel_rfl
  obtain ⟨i0, hi, hz0, hz1, hz2⟩ := info_parts info_byte
  have he : Try.prog.elem 24 = 5 := by kernel_rfl
  have e8 : (o : Int) + 8 = ((o + 8 : Nat) : Int) := by omega
  rw [e8, run_slice_lh w 24 _ N c ht .i64 .i64 o (o + 8 : Nat) (by omega) (by omega) (by omega), he]
  have hs : (sizeOf 5).run Try.prog w = .ok 1 w := by simp [sizeOf, typeInfo, hi, hz1]
  rw [hs]
  have h0 : ¬ c = o := by omega
  simp only [Result.andThen, sliced, Int.toNat_natCast, Nat.mul_one, Option.map_some]
  simp only [Addr.add_mid]
  simp
  intro h
  exact absurd h h0
set_option maxRecDepth 100000 in
set_option maxHeartbeats 2000000 in
theorem rows1_in (g N c A S : Nat) (hfit : A + 7 * S + 8 ≤ N) (hNc : N ≤ c) (hA : A ≤ 200000) (hS : S ≤ 400) (m : Nat) (hm : 1 ≤ m) (l B Bb Ba Bs : Nat) (bb : B ≤ Bb) (ba : B ≤ Ba) (bs : B ≤ Bs) (lb : Bb ≠ l) (la : Ba ≠ l) (ls : Bs ≠ l) (J Jx : List (Fin 8) → World → Prop) (W : World)
    (hY : ∀ pre x W1, J pre W1 → pre.length < 8 → YieldAt Fence.wide (m - 1) Try.prog l (encR g A S c x) W1 fun e W' =>
      (e = .returned (.bool true) ∧ J (pre ++ [x]) W' ∧ KpA B l W1 W') ∨ (e = .returned (.bool false) ∧ Jx (pre ++ [x]) W' ∧ KpA B l W1 W'))
    (h0 : J [] W) (h1 : Boxed W Bb 24 (.slice (some ⟨g, 0, none⟩) N c)) (h2 : Boxed W Ba 3 (.int .i64 (A : Int))) (h3 : Boxed W Bs 3 (.int .i64 (S : Int))) :
    CallsIn Fence.wide m Try.prog 56 #[.func (.yield l) #[] #[], .pointer (some ⟨Bb, 0, none⟩), .pointer (some ⟨Ba, 0, none⟩), .pointer (some ⟨Bs, 0, none⟩)] W fun e W' => (∃ v, e = .returned v) ∧
      ((∃ ys, ys = List.finRange 8 ∧ J ys W') ∨ (∃ pre, pre <+: List.finRange 8 ∧ Jx pre W')) := by
  have H1 := Lib.hid h1
  have H2 := Lib.hid h2
  have H3 := Lib.hid h3
  have H0 := Lib.hid h0
  clear h1 h2 h3 h0
  refine callsIn_of_wp Try.func56 rfl trivial ?_ rfl
  simp only [Try.ntmps56, List.size_toArray, List.length_cons, List.length_nil, Nat.reduceAdd, Nat.reduceSub, Array.replicate_succ, Array.replicate_zero, List.push_toArray, List.append_toArray, List.nil_append, List.cons_append]
  gi_wp2
  gi_loopw [6] (fun i wr => ∃ k : Nat, k ≤ 8 ∧ i = .int .i64 k ∧ J ((List.finRange 8).take k) wr ∧ Boxed wr Bb 24 (.slice (some ⟨g, 0, none⟩) N c) ∧ Boxed wr Ba 3 (.int .i64 (A : Int)) ∧ Boxed wr Bs 3 (.int .i64 (S : Int)))
    (fun i _ => 8 - (intOf i).toNat)
  case atStart => exact ⟨0, by omega, rfl, H0.out, H1.out, H2.out, H3.out⟩
  case round =>
    obtain ⟨k, hk, rfl, hJk, b1, b2, b3⟩ := hrel
    clear H0 H1 H2 H3
    by_cases hk8 : k < 8
    · have c1 := b1.cell
      have c2 := b2.cell
      have c3 := b3.cell
      obtain ⟨x, hx⟩ : ∃ x : Fin 8, x.val = k := ⟨⟨k, hk8⟩, rfl⟩
      have hkS : k * S ≤ 7 * S := Nat.mul_le_mul_right S (by omega)
      obtain ⟨q, hq⟩ : ∃ q, k * S = q := ⟨_, rfl⟩
      rw [hq] at hkS
      have hqI : (k : Int) * (S : Int) = (q : Int) := by rw [← hq]; push_cast; rfl
      have e1 : IntKind.i64.wrap ((k : Int) * (S : Int)) = (q : Int) := by rw [hqI]; exact IntWalk.i64_in _ (by omega)
      have e2 : IntKind.i64.wrap ((A : Int) + (q : Int)) = ((A + q : Nat) : Int) := by rw [IntWalk.i64_in _ (by omega)]; push_cast; rfl
      have e3 : IntKind.i64.wrap (((A + q : Nat) : Int) + 8) = ((A + q : Nat) : Int) + 8 := IntWalk.i64_in _ (by omega)
      obtain ⟨o, ho⟩ : ∃ o, A + q = o := ⟨_, rfl⟩
      rw [ho] at e2 e3
      have sl := fun W => slice_row g 0 N c o (by omega) hNc W
      simp only [Nat.zero_add] at sl
      have hy0 := hY ((List.finRange 8).take k) x wr hJk (by simp; omega)
      obtain ⟨fn, tmps, assign, body, hy, _, hR⟩ := yield_wide (r := 0) (m' := m - 1) hy0
      dsimp only [encR] at hy
      rw [hx, hq, ho] at hy
      have SN : Hid ((List.finRange 8).take (k + 1) = (List.finRange 8).take k ++ [x]) := Lib.hid (by
        rw [List.take_succ_eq_append_getElem (by simp; omega)]
        congr 2
        exact Fin.ext (by simp [hx]))
      have D1 := Lib.hid b1
      have D2 := Lib.hid b2
      have D3 := Lib.hid b3
      clear hJk b1 b2 b3 hy0 hq hqI ho hx
      gi_wp2
      refine hR.mono ?_
      rintro e W3 (⟨rfl, hJ3, hK3⟩ | ⟨rfl, hJx3, hK3⟩)
      · gi_wp2
        go_roundw
        case rel => exact ⟨k + 1, by omega, by go_num, by rw [SN.out]; exact hJ3, kpA_box D1.out hK3 bb lb, kpA_box D2.out hK3 ba la, kpA_box D3.out hK3 bs ls⟩
        case measure => simp [intOf]; omega
      · gi_wp2
        refine bodyPost_ret (results_none rfl _ _ _) rfl ?_
        exact ⟨⟨_, rfl⟩, .inr ⟨(List.finRange 8).take (k + 1), List.take_prefix _ _, by rw [SN.out]; exact hJx3⟩⟩
    · have hJ8 : J (List.finRange 8) wr := by
        obtain rfl : k = 8 := by omega
        rwa [List.take_of_length_le (by simp)] at hJk
      have hk' : 8 ≤ k := by omega
      clear hJk b1 b2 b3
      have HJ := Lib.hid hJ8
      clear hJ8
      gi_wp2
      go_end0
      exact ⟨⟨_, rfl⟩, .inl ⟨_, rfl, HJ.out⟩⟩
theorem rows_seq (g N c A S : Nat) (hfit : A + 7 * S + 8 ≤ N) (hNc : N ≤ c) (hA : A ≤ 200000) (hS : S ≤ 400) (m : Nat) (hm : 1 ≤ m) (B Bb Ba Bs : Nat) (bb : B ≤ Bb) (ba : B ≤ Ba) (bs : B ≤ Bs) (w : World) (h1 : Boxed w Bb 24 (.slice (some ⟨g, 0, none⟩) N c)) (h2 : Boxed w Ba 3 (.int .i64 (A : Int))) (h3 : Boxed w Bs 3 (.int .i64 (S : Int))) :
    SeqN m Try.prog 56 #[.pointer (some ⟨Bb, 0, none⟩), .pointer (some ⟨Ba, 0, none⟩), .pointer (some ⟨Bs, 0, none⟩)] (encR g A S c) (KpA B) (fun ys => ys = List.finRange 8) (fun pre => pre <+: List.finRange 8) 8 w := fun l J Jx W hW hl hlW _ _ hY h0 =>
  rows1_in g N c A S hfit hNc hA hS m hm l B Bb Ba Bs bb ba bs (by have := h1.lt; omega) (by have := h2.lt; omega) (by have := h3.lt; omega) J Jx W hY h0 (h1.kept (grown_of_below hW none) (by simp)) (h2.kept (grown_of_below hW none) (by simp)) (h3.kept (grown_of_below hW none) (by simp))
end Pa
end Go.Proofs.Ytkeempljogjceaa
