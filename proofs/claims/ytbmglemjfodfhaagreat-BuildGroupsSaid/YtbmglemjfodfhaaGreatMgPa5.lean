/- paint: the rows of a block's place; Lay. | paint: corner, Lay. | paint, the document's answer: refuses, Lay. | paint, the document's answer: Copy. | paint: Copy. -/
import Derived.Test.YtbmglemjfodfhaaGreatMgCpy
import Derived.Test.YtbmglemjfodfhaaGreatMgIx
import Derived.Test.YtbmglemjfodfhaaGreatMgPa1
import Derived.Test.YtbmglemjfodfhaaGreatMgRg1
set_option linter.unusedVariables false
set_option linter.unusedSimpArgs false
namespace Go.Proofs.YtbmglemjfodfhaaGreat
open Go.RowKit Go.Shelf
attribute [local go_sem] Oper.semAt_some
namespace Pa
open Fr Pt
/-! ### what is laid -/
def putRow (A S : Nat) (s h : Nat → Int) (y : Nat) (i : Nat) : Int := if A + y * S ≤ i ∧ i < A + y * S + 8 then s (8 * y + (i - (A + y * S))) else h i
def putOne (A S : Nat) (s h : Nat → Int) (j : Nat) (i : Nat) : Int := if i = A + j / 8 * S + j % 8 then s j else h i
def layR (A S : Nat) (s f : Nat → Int) (pre : List (Fin 8)) : Nat → Int := pre.foldl (fun h y => putRow A S s h y.val) f
def layN (A S : Nat) (s f : Nat → Int) : Nat → Nat → Int
  | 0 => f
  | k + 1 => putOne A S s (layN A S s f k) k
theorem layR_snoc (A S : Nat) (s f : Nat → Int) (pre : List (Fin 8)) (y : Fin 8) : layR A S s f (pre ++ [y]) = putRow A S s (layR A S s f pre) y.val := by unfold layR; rw [List.foldl_append]; rfl
theorem put_row (A S : Nat) (s f : Nat → Int) (y : Nat) : ∀ k, k ≤ 8 → ∀ i, layN A S s f (8 * y + k) i = if A + y * S ≤ i ∧ i < A + y * S + k then s (8 * y + (i - (A + y * S))) else layN A S s f (8 * y) i
  | 0, _, i => by rw [if_neg (by omega)]; rfl
  | k + 1, hk, i => by
    have ih := put_row A S s f y k (by omega) i
    show putOne A S s (layN A S s f (8 * y + k)) (8 * y + k) i = _
    unfold putOne
    rw [show (8 * y + k) / 8 = y by omega, show (8 * y + k) % 8 = k by omega, ih]
    by_cases e : i = A + y * S + k
    · rw [if_pos e, if_pos (by omega), show i - (A + y * S) = k by omega]
    · rw [if_neg e]
      by_cases l : A + y * S ≤ i ∧ i < A + y * S + k
      · rw [if_pos l, if_pos (by omega)]
      · rw [if_neg l, if_neg (by omega)]
theorem putRow_eq (A S : Nat) (s f : Nat → Int) (y : Nat) : putRow A S s (layN A S s f (8 * y)) y = layN A S s f (8 * (y + 1)) := by
  funext i
  rw [show 8 * (y + 1) = 8 * y + 8 by omega, put_row A S s f y 8 (by omega) i]
  rfl
theorem layR_all (A S : Nat) (s f : Nat → Int) : layR A S s f (List.finRange 8) = layN A S s f 64 := by
  have e : ∀ k (hk : k ≤ 8), layR A S s f ((List.finRange 8).take k) = layN A S s f (8 * k) := by
    intro k
    induction k with
    | zero => intro _; rfl
    | succ k ih =>
      intro hk
      rw [List.take_succ_eq_append_getElem (by simp; omega), layR_snoc, ih (by omega), ← putRow_eq]
      simp
  have := e 8 (by omega)
  rwa [List.take_of_length_le (by simp)] at this
theorem lay_at (A S : Nat) (s f : Nat → Int) (hS : 8 ≤ S) (k j : Nat) (hj : j < k) : layN A S s f k (A + j / 8 * S + j % 8) = s j := by
  induction k with
  | zero => omega
  | succ k ih =>
    show putOne A S s (layN A S s f k) k _ = _
    unfold putOne
    by_cases e : j = k
    · subst e; rw [if_pos rfl]
    · rw [if_neg, ih (by omega)]
      intro h
      have h1 : j / 8 * S + j % 8 = k / 8 * S + k % 8 := by omega
      have : j / 8 = k / 8 := by
        rcases Nat.lt_trichotomy (j / 8) (k / 8) with l | l | l
        · have := Nat.mul_le_mul_right S (show j / 8 + 1 ≤ k / 8 by omega)
          rw [Nat.add_mul] at this
          omega
        · exact l
        · have := Nat.mul_le_mul_right S (show k / 8 + 1 ≤ j / 8 by omega)
          rw [Nat.add_mul] at this
          omega
      rw [this] at h1
      omega
def encR (g A S c : Nat) (y : Fin 8) : Array Value := #[.int .i64 (y.val : Int), .slice (some ⟨g, A + y.val * S, none⟩) 8 (c - (A + y.val * S))]
theorem rows_in (v : Value) (a : Option Addr) (N c : Nat) (hv : v = .slice a N c) (A S : Int) (m : Nat) (w : World) :
    CallsIn Fence.wide m Tryz.prog 57 #[v, .int .i64 A, .int .i64 S] w fun e w' => e = .returned (.func (.func 101) #[] #[.pointer (some ⟨w.heap.size, 0, none⟩), .pointer (some ⟨w.heap.size + 1, 0, none⟩), .pointer (some ⟨w.heap.size + 2, 0, none⟩)])
      ∧ w' = ((w.alloc (.cells #[v] 30)).alloc (.cells #[.int .i64 A] 3)).alloc (.cells #[.int .i64 S] 3) := by
  subst hv
  refine callsIn_wide.2 ?_
  go_enter Tryz.func57, Tryz.ntmps57
  go_wp2
  go_ret
  exact ⟨rfl, rfl⟩
theorem slice_row (g q N c o : Nat) (h1 : o + 8 ≤ N) (h2 : N ≤ c) (w : World) : (Instr.slice 30 (.slice (some ⟨g, q, none⟩) N c) (some (.int .i64 (o : Int))) (some (.int .i64 ((o : Int) + 8))) none).run Tryz.prog w = .ok (.slice (some ⟨g, q + o, none⟩) 8 (c - o)) w := by
  have ht : Tryz.prog.underlying 30 = some (.slice (Tryz.prog.elem 30)) := by kernel_rfl
  obtain ⟨i0, hi, hz0, hz1, hz2⟩ := info_parts info_byte
  have he : Tryz.prog.elem 30 = 5 := by kernel_rfl
  have e8 : (o : Int) + 8 = ((o + 8 : Nat) : Int) := by omega
  rw [e8, run_slice_lh w 30 _ N c ht .i64 .i64 o (o + 8 : Nat) (by omega) (by omega) (by omega), he]
  have hs : (sizeOf 5).run Tryz.prog w = .ok 1 w := by simp [sizeOf, typeInfo, hi, hz1]
  rw [hs]
  have h0 : ¬ c = o := by omega
  simp only [Result.andThen, sliced, Int.toNat_natCast, Nat.mul_one, Option.map_some]
  simp only [Addr.add_mid]
  simp
  intro h
  exact absurd h h0
set_option maxRecDepth 100000 in
set_option maxHeartbeats 2000000 in
theorem rows1_in (g N c A S : Nat) (hfit : A + 7 * S + 8 ≤ N) (hNc : N ≤ c) (hA : A ≤ 200000) (hS : S ≤ 400) (m : Nat) (hm : 1 ≤ m) (l B Bb Ba Bs : Nat) (bb : B ≤ Bb) (ba : B ≤ Ba) (bs : B ≤ Bs) (lb : Bb ≠ l) (la : Ba ≠ l) (ls : Bs ≠ l) (J Jx : List (Fin 8) → World → Prop) (W : World)
    (hY : ∀ pre x W1, J pre W1 → pre.length < 8 → YieldAt Fence.wide (m - 1) Tryz.prog l (encR g A S c x) W1 fun e W' =>
      (e = .returned (.bool true) ∧ J (pre ++ [x]) W' ∧ KpA B l W1 W') ∨ (e = .returned (.bool false) ∧ Jx (pre ++ [x]) W' ∧ KpA B l W1 W'))
    (h0 : J [] W) (h1 : Boxed W Bb 30 (.slice (some ⟨g, 0, none⟩) N c)) (h2 : Boxed W Ba 3 (.int .i64 (A : Int))) (h3 : Boxed W Bs 3 (.int .i64 (S : Int))) :
    CallsIn Fence.wide m Tryz.prog 101 #[.func (.yield l) #[] #[], .pointer (some ⟨Bb, 0, none⟩), .pointer (some ⟨Ba, 0, none⟩), .pointer (some ⟨Bs, 0, none⟩)] W fun e W' => (∃ v, e = .returned v) ∧
      ((∃ ys, ys = List.finRange 8 ∧ J ys W') ∨ (∃ pre, pre <+: List.finRange 8 ∧ Jx pre W')) := by
  have H1 := Lib.hid h1
  have H2 := Lib.hid h2
  have H3 := Lib.hid h3
  have H0 := Lib.hid h0
  clear h1 h2 h3 h0
  refine callsIn_of_wp Tryz.func101 rfl trivial ?_ rfl
  simp only [Tryz.ntmps101, List.size_toArray, List.length_cons, List.length_nil, Nat.reduceAdd, Nat.reduceSub, Array.replicate_succ, Array.replicate_zero, List.push_toArray, List.append_toArray, List.nil_append, List.cons_append]
  gi_wp2
  gi_loopw [6] (fun i wr => ∃ k : Nat, k ≤ 8 ∧ i = .int .i64 k ∧ J ((List.finRange 8).take k) wr ∧ Boxed wr Bb 30 (.slice (some ⟨g, 0, none⟩) N c) ∧ Boxed wr Ba 3 (.int .i64 (A : Int)) ∧ Boxed wr Bs 3 (.int .i64 (S : Int)))
    (fun i _ => 8 - (intOf i).toNat)
  case atStart => exact ⟨0, by omega, rfl, H0.out, H1.out, H2.out, H3.out⟩
  case round =>
    obtain ⟨k, hk, rfl, hJk, b1, b2, b3⟩ := hrel
    clear H0 H1 H2 H3
    by_cases hk8 : k < 8
    · have c1 := b1.cell
      have c2 := b2.cell
      have c3 := b3.cell
      obtain ⟨x, hx⟩ : ∃ x : Fin 8, x.val = k := ⟨⟨k, hk8⟩, rfl⟩
      have hkS : k * S ≤ 7 * S := Nat.mul_le_mul_right S (by omega)
      obtain ⟨q, hq⟩ : ∃ q, k * S = q := ⟨_, rfl⟩
      rw [hq] at hkS
      have hqI : (k : Int) * (S : Int) = (q : Int) := by rw [← hq]; push_cast; rfl
      have e1 : IntKind.i64.wrap ((k : Int) * (S : Int)) = (q : Int) := by rw [hqI]; exact IntWalk.i64_in _ (by omega)
      have e2 : IntKind.i64.wrap ((A : Int) + (q : Int)) = ((A + q : Nat) : Int) := by rw [IntWalk.i64_in _ (by omega)]; push_cast; rfl
      have e3 : IntKind.i64.wrap (((A + q : Nat) : Int) + 8) = ((A + q : Nat) : Int) + 8 := IntWalk.i64_in _ (by omega)
      obtain ⟨o, ho⟩ : ∃ o, A + q = o := ⟨_, rfl⟩
      rw [ho] at e2 e3
      have sl := fun W => slice_row g 0 N c o (by omega) hNc W
      simp only [Nat.zero_add] at sl
      have hy0 := hY ((List.finRange 8).take k) x wr hJk (by simp; omega)
      obtain ⟨fn, tmps, assign, body, hy, _, hR⟩ := yield_wide (r := 0) (m' := m - 1) hy0
      dsimp only [encR] at hy
      rw [hx, hq, ho] at hy
      have SN : Hid ((List.finRange 8).take (k + 1) = (List.finRange 8).take k ++ [x]) := Lib.hid (by
        rw [List.take_succ_eq_append_getElem (by simp; omega)]
        congr 2
        exact Fin.ext (by simp [hx]))
      have D1 := Lib.hid b1
      have D2 := Lib.hid b2
      have D3 := Lib.hid b3
      clear hJk b1 b2 b3 hy0 hq hqI ho hx
      gi_wp2
      refine hR.mono ?_
      rintro e W3 (⟨rfl, hJ3, hK3⟩ | ⟨rfl, hJx3, hK3⟩)
      · gi_wp2
        go_roundw
        case rel => exact ⟨k + 1, by omega, by go_num, by rw [SN.out]; exact hJ3, kpA_box D1.out hK3 bb lb, kpA_box D2.out hK3 ba la, kpA_box D3.out hK3 bs ls⟩
        case measure => simp [intOf]; omega
      · gi_wp2
        refine bodyPost_ret (results_none rfl _ _ _) rfl ?_
        exact ⟨⟨_, rfl⟩, .inr ⟨(List.finRange 8).take (k + 1), List.take_prefix _ _, by rw [SN.out]; exact hJx3⟩⟩
    · have hJ8 : J (List.finRange 8) wr := by
        obtain rfl : k = 8 := by omega
        rwa [List.take_of_length_le (by simp)] at hJk
      have hk' : 8 ≤ k := by omega
      clear hJk b1 b2 b3
      have HJ := Lib.hid hJ8
      clear hJ8
      gi_wp2
      go_end0
      exact ⟨⟨_, rfl⟩, .inl ⟨_, rfl, HJ.out⟩⟩
theorem rows_seq (g N c A S : Nat) (hfit : A + 7 * S + 8 ≤ N) (hNc : N ≤ c) (hA : A ≤ 200000) (hS : S ≤ 400) (m : Nat) (hm : 1 ≤ m) (B Bb Ba Bs : Nat) (bb : B ≤ Bb) (ba : B ≤ Ba) (bs : B ≤ Bs) (w : World) (h1 : Boxed w Bb 30 (.slice (some ⟨g, 0, none⟩) N c)) (h2 : Boxed w Ba 3 (.int .i64 (A : Int))) (h3 : Boxed w Bs 3 (.int .i64 (S : Int))) :
    SeqN m Tryz.prog 101 #[.pointer (some ⟨Bb, 0, none⟩), .pointer (some ⟨Ba, 0, none⟩), .pointer (some ⟨Bs, 0, none⟩)] (encR g A S c) (KpA B) (fun ys => ys = List.finRange 8) (fun pre => pre <+: List.finRange 8) 8 w := fun l J Jx W hW hl hlW _ _ hY h0 =>
  rows1_in g N c A S hfit hNc hA hS m hm l B Bb Ba Bs bb ba bs (by have := h1.lt; omega) (by have := h2.lt; omega) (by have := h3.lt; omega) J Jx W hY h0 (h1.kept (grown_of_below hW none) (by simp)) (h2.kept (grown_of_below hW none) (by simp)) (h3.kept (grown_of_below hW none) (by simp))
end Pa
end Go.Proofs.YtbmglemjfodfhaaGreat
namespace Go.Proofs.YtbmglemjfodfhaaGreat
open Go.RowKit Go.Shelf
attribute [local go_sem] Oper.semAt_some
namespace Pa
open Fr Pt
def spV (n g a : Int) : Value := .agg #[.int .i64 n, .int .i64 g, .int .i64 a]
def coN (n g a : Int) : Int := if cE n g a = 0 then zV n else 0
theorem corner_any (n g a : Int) (w : World) : Calls Tryz.prog 55 #[.agg #[.int .i64 n, .int .i64 g, .int .i64 a]] w fun e w' => e = .returned (.tuple #[.int .i64 (coN n g a), .int .i64 (cE n g a)]) ∧ Below w.heap.size w w' := by
  by_cases hc : cE n g a = 0
  · have hf : fE n = 0 := by unfold fE; rw [if_pos (cE_cases n g a hc).1]
    have E : Hid (coN n g a = zV n) := Lib.hid (by unfold coN; rw [if_pos hc])
    have HC := Lib.hid hc
    have HF := Lib.hid hf
    clear hc hf
    go_enter Tryz.func55, Tryz.ntmps55
    go_wp2_with (first
      | (go_at_call 86; refine (Corner_any n g a _).mono ?_; rintro e w1 ⟨rfl, hB⟩; rw [HC.out]; have HB := Lib.hid (chain (((Below.refl w.heap.size w).alloc (Nat.le_refl _) _)) hB); have c0 := (bcell hB).1 w.heap.size; clear hB)
      | (go_at_call 73; refine (Size_any n _).mono ?_; rintro e w2 ⟨rfl, rfl⟩; rw [HF.out]))
    go_ret2
    exact ⟨by rw [E.out, HC.out]; rfl, HB.out⟩
  · have E : Hid (coN n g a = 0) := Lib.hid (by unfold coN; rw [if_neg hc])
    obtain ⟨x, hx⟩ : ∃ x, cE n g a = x := ⟨_, rfl⟩
    have HX := Lib.hid hx
    rw [hx] at hc
    have t0 : (x != 0) = true := by simpa using hc
    clear hc hx
    go_enter Tryz.func55, Tryz.ntmps55
    go_wp2_with (go_at_call 86; refine (Corner_any n g a _).mono ?_; rintro e w1 ⟨rfl, hB⟩; rw [HX.out]; have HB := Lib.hid (chain (((Below.refl w.heap.size w).alloc (Nat.le_refl _) _)) hB); clear hB)
    go_ret2
    exact ⟨by rw [E.out, HX.out]; rfl, HB.out⟩
def layE (n g a k : Int) (N M : Nat) : Int := if cE n g a ≠ 0 then cE n g a else if (N : Int) ≠ zV n ∨ M ≠ 64 then 2 else if k < 1 ∨ 6 < k then 3 else 0
theorem lay_no1 (p q : Option Addr) (N c M d : Nat) (n g a k : Int) (w : World) (hc : cE n g a ≠ 0) :
    Calls Tryz.prog 18 #[.slice p N c, .agg #[.int .i64 n, .int .i64 g, .int .i64 a], .int .i64 k, .slice q M d] w fun e w' => e = .returned (.int .i64 (layE n g a k N M)) ∧ Below w.heap.size w w' := by
  have E : Hid (layE n g a k N M = cE n g a) := Lib.hid (by unfold layE; rw [if_pos hc])
  obtain ⟨x, hx⟩ : ∃ x, cE n g a = x := ⟨_, rfl⟩
  have HX := Lib.hid hx
  rw [hx] at hc
  have t0 : (x != 0) = true := by simpa using hc
  clear hc hx
  go_enter Tryz.func18, Tryz.ntmps18
  go_wp2_with (go_at_call 55; refine (corner_any n g a _).mono ?_; rintro e w1 ⟨rfl, hB⟩; rw [HX.out]; have HB := Lib.hid (chain ((((Below.refl w.heap.size w).alloc (Nat.le_refl _) _)).alloc (by simp) _) hB); clear hB)
  go_ret
  exact ⟨by rw [E.out, HX.out]; rfl, HB.out⟩
theorem lay_no2 (p q : Option Addr) (N c M d : Nat) (n g a k : Int) (w : World) (hc : cE n g a = 0) (hN : (N : Int) ≠ zV n) :
    Calls Tryz.prog 18 #[.slice p N c, .agg #[.int .i64 n, .int .i64 g, .int .i64 a], .int .i64 k, .slice q M d] w fun e w' => e = .returned (.int .i64 (layE n g a k N M)) ∧ Below w.heap.size w w' := by
  have E : Hid (layE n g a k N M = 2) := Lib.hid (by unfold layE; rw [if_neg (by omega), if_pos (.inl hN)])
  obtain ⟨z, hz⟩ : ∃ z, zV n = z := ⟨_, rfl⟩
  have HZ : Hid (coN n g a = z) := Lib.hid (by unfold coN; rw [if_pos hc, hz])
  have HX := Lib.hid hc
  rw [hz] at hN
  have t0 : ((N : Int) != z) = true := by simpa using hN
  clear hc hz hN
  go_enter Tryz.func18, Tryz.ntmps18
  go_wp2_with (go_at_call 55; refine (corner_any n g a _).mono ?_; rintro e w1 ⟨rfl, hB⟩; rw [HX.out, HZ.out]; have HB := Lib.hid (chain ((((Below.refl w.heap.size w).alloc (Nat.le_refl _) _)).alloc (by simp) _) hB); clear hB)
  go_ret
  exact ⟨by rw [E.out]; rfl, HB.out⟩
theorem lay_no3 (p q : Option Addr) (N c M d : Nat) (n g a k : Int) (w : World) (hc : cE n g a = 0) (hN : (N : Int) = zV n) (hM : M ≠ 64) :
    Calls Tryz.prog 18 #[.slice p N c, .agg #[.int .i64 n, .int .i64 g, .int .i64 a], .int .i64 k, .slice q M d] w fun e w' => e = .returned (.int .i64 (layE n g a k N M)) ∧ Below w.heap.size w w' := by
  have E : Hid (layE n g a k N M = 2) := Lib.hid (by unfold layE; rw [if_neg (by omega), if_pos (.inr hM)])
  have HZ : Hid (coN n g a = (N : Int)) := Lib.hid (by unfold coN; rw [if_pos hc, hN])
  have HX := Lib.hid hc
  have t0 : ((M : Int) != 64) = true := by simp; omega
  clear hc hN hM
  go_enter Tryz.func18, Tryz.ntmps18
  go_wp2_with (go_at_call 55; refine (corner_any n g a _).mono ?_; rintro e w1 ⟨rfl, hB⟩; rw [HX.out, HZ.out]; have HB := Lib.hid (chain ((((Below.refl w.heap.size w).alloc (Nat.le_refl _) _)).alloc (by simp) _) hB); have c0 := (bcell hB).1 (w.heap.size + 1); clear hB)
  go_ret
  exact ⟨by rw [E.out]; rfl, HB.out⟩
theorem lay_no4 (p q : Option Addr) (N c d : Nat) (n g a k : Int) (w : World) (hc : cE n g a = 0) (hN : (N : Int) = zV n) (hk : k < 1 ∨ 6 < k) :
    Calls Tryz.prog 18 #[.slice p N c, .agg #[.int .i64 n, .int .i64 g, .int .i64 a], .int .i64 k, .slice q 64 d] w fun e w' => e = .returned (.int .i64 (layE n g a k N 64)) ∧ Below w.heap.size w w' := by
  have E : Hid (layE n g a k N 64 = 3) := Lib.hid (by unfold layE; rw [if_neg (by omega), if_neg (by omega), if_pos hk])
  have HZ : Hid (coN n g a = (N : Int)) := Lib.hid (by unfold coN; rw [if_pos hc, hN])
  have HP : Hid (pE n g a k = 3) := Lib.hid (by unfold pE; rw [if_neg (by omega), if_pos hk])
  have HX := Lib.hid hc
  clear hc hN hk
  go_enter Tryz.func18, Tryz.ntmps18
  go_wp2_with (first
    | (go_at_call 55; refine (corner_any n g a _).mono ?_; rintro e w1 ⟨rfl, hB⟩; rw [HX.out, HZ.out]; have HB := Lib.hid (chain ((((Below.refl w.heap.size w).alloc (Nat.le_refl _) _)).alloc (by simp) _) hB); have c0 := (bcell hB).1 (w.heap.size + 1); have c1 := (bcell hB).1 w.heap.size; clear hB)
    | (go_at_call 56; refine (Place_any n g a k _).mono ?_; rintro e w2 ⟨rfl, hB⟩; rw [HP.out]; have HB2 := Lib.hid (chain HB.out hB); clear hB))
  go_ret
  exact ⟨by rw [E.out]; rfl, HB2.out⟩
theorem place_fit (n g a k : Int) (hc : cE n g a = 0) (hk : 1 ≤ k ∧ k ≤ 6) : 0 ≤ pA n g a k ∧ (8 ≤ pS n g a k ∧ pS n g a k ≤ 352) ∧ pA n g a k + 7 * pS n g a k + 8 ≤ zV n := by
  have e1 : pE n g a k = 0 := by unfold pE; rw [if_neg (by omega), if_neg (by omega)]
  have h1 := cX_bd n g a hc
  have h2 := cY_bd n g a hc
  obtain ⟨X, hX⟩ : ∃ X, cX n g a = X := ⟨_, rfl⟩
  obtain ⟨Y, hY⟩ : ∃ Y, cY n g a = Y := ⟨_, rfl⟩
  unfold pA pS
  rw [e1, if_pos rfl, if_pos rfl]
  rw [hX] at h1 ⊢
  rw [hY] at h2 ⊢
  have w0 : wV 0 = 176 := rfl
  have w1 : wV 1 = 352 := rfl
  have v0 : hV 0 = 144 := rfl
  have v1 : hV 1 = 288 := rfl
  have z0 : zV 0 = 38016 := rfl
  have z1 : zV 1 = 152064 := rfl
  rcases (cE_cases n g a hc).1 with rfl | rfl
  · unfold bA bS
    rw [w0] at h1 ⊢
    rw [v0] at h2 ⊢
    rw [z0]
    by_cases h4 : k ≤ 4
    · rw [if_pos h4, if_pos h4]; omega
    · rw [if_neg h4, if_neg h4]; omega
  · unfold bA bS
    rw [w1] at h1 ⊢
    rw [v1] at h2 ⊢
    rw [z1]
    by_cases h4 : k ≤ 4
    · rw [if_pos h4, if_pos h4]; omega
    · rw [if_neg h4, if_neg h4]; omega
theorem size_byte : (Tryz.prog.info? 5).map (·.size) = some 1 := by kernel_rfl
theorem own_arr {β : Type} {B b N : Nat} (hb : b < B) (F : β → Nat → Int) : OwnFrom B (fun x V => Arr V .u8 b N (F x)) := fun s A C row h hg hr => h.grown hg (fun e => by have := (hr b e.symm).1; omega)
theorem own_ints {β : Type} {B b o N : Nat} (hb : b < B) (F : Nat → Int) : OwnFrom B (fun (_ : β) V => Ints V .u8 b o N F) := fun s A C row h hg hr => h.grown hg (fun e => by have := (hr b e.symm).1; omega)
theorem own_grown {β : Type} {B : Nat} {w : World} (row : Option Nat) (hB : w.heap.size ≤ B) : OwnFrom B (fun (_ : β) W => w.grownBy W row) :=
  fun s A C row2 h hg hr => ⟨hg.os.trans h.os, hg.tape.trans h.tape, hg.output.trans h.output, Nat.le_trans h.size hg.size, fun i hi hne => (hg.block i (Nat.lt_of_lt_of_le hi h.size) (fun e => by have := (hr i e.symm).1; omega)).trans (h.block i hi hne)⟩
theorem kpA_grown {B l b : Nat} {V V' : World} (hg : V.grownBy V' (some b)) (hb : b < B) : KpA B l V V' := ⟨hg.size, fun i hi _ o ho => (hg.block i (Array.getElem?_eq_some_iff.1 ho).1 (fun e => by have := Option.some.inj e; omega)).trans ho⟩
set_option maxRecDepth 100000 in
set_option maxHeartbeats 4000000 in
theorem lay_yes (b N R c sb so sc A S : Nat) (f s : Nat → Int) (n g a k : Int) (w : World) (hA : Arr w .u8 b R f) (hR : N ≤ R) (hNc : N ≤ c) (hI : Ints w .u8 sb so 64 s) (hsc : 64 ≤ sc) (hne : sb ≠ b) (hc : cE n g a = 0) (hN : (N : Int) = zV n) (hk : 1 ≤ k ∧ k ≤ 6) (hAp : (A : Int) = pA n g a k) (hSp : (S : Int) = pS n g a k) :
    Calls Tryz.prog 18 #[.slice (some ⟨b, 0, none⟩) N c, .agg #[.int .i64 n, .int .i64 g, .int .i64 a], .int .i64 k, .slice (some ⟨sb, so, none⟩) 64 sc] w fun e w' => e = .returned (.int .i64 0) ∧ Arr w' .u8 b R (layN A S s f 64) ∧ w.grownBy w' (some b) := by
  have fit := place_fit n g a k hc hk
  have zb : zV n ≤ 152064 := by rcases (cE_cases n g a hc).1 with rfl | rfl <;> decide
  have fitN : A + 7 * S + 8 ≤ N ∧ A ≤ 200000 ∧ S ≤ 400 := by omega
  have HZ : Hid (coN n g a = (N : Int)) := Lib.hid (by unfold coN; rw [if_pos hc, hN])
  have HP : Hid (pE n g a k = 0) := Lib.hid (by unfold pE; rw [if_neg (by omega), if_neg (by omega)])
  have HA1 := Lib.hid hAp
  have HS1 := Lib.hid hSp
  have HX := Lib.hid hc
  have hbl := hA.lt (by omega)
  have hsl := hI.lt (by omega)
  clear hc hN hk fit zb hAp hSp
  refine (callsIn_wide (n := 12)).1 ?_
  refine callsIn_of_wp_marks Tryz.func18 rfl trivial ?_ rfl
  simp only [Tryz.ntmps18, List.size_toArray, List.length_cons, List.length_nil, Nat.reduceAdd, Nat.reduceSub, Array.replicate_succ, Array.replicate_zero, List.push_toArray, List.append_toArray, List.nil_append, List.cons_append]
  have b7 := Boxed.new (w.alloc (.cells #[.int .i64 n, .int .i64 g, .int .i64 a] 28)) 30 (.slice (some ⟨sb, so, none⟩) 64 sc)
  simp only [World.size_alloc] at b7
  gi_wp2_with (first
    | (refine ⟨trivial, ?_⟩; gi_at_call 55; refine (callsIn_wide.2 (corner_any n g a _)).mono ?_; rintro e w1 ⟨rfl, hB⟩; rw [HX.out, HZ.out]; have HB := Lib.hid (chain ((((Below.refl w.heap.size w).alloc (Nat.le_refl _) _)).alloc (by simp) _) hB); have B7 := Lib.hid (b7.kept (grown_of_below hB none) (by simp)); have c0 := (bcell hB).1 (w.heap.size + 1); have c1 := (bcell hB).1 w.heap.size; clear hB b7)
    | (refine ⟨trivial, ?_⟩; gi_at_call 56; refine (callsIn_wide.2 (Place_any n g a k _)).mono ?_; rintro e w2 ⟨rfl, hB⟩; rw [HP.out, ← HA1.out, ← HS1.out]; have HB2 := Lib.hid (chain HB.out hB); have B72 := Lib.hid (B7.out.kept (grown_of_below hB none) (by simp)); clear hB c0 c1)
    | (refine ⟨trivial, ?_⟩; gi_at_call 57; refine (rows_in _ _ N c rfl _ _ _ _).mono ?_))
  have d1 := ((Boxed.new w2 30 (.slice (some ⟨b, 0, none⟩) N c)).alloc (.cells #[.int .i64 (A : Int)] 3)).alloc (.cells #[.int .i64 (S : Int)] 3)
  have d2 := (Boxed.new (w2.alloc (.cells #[.slice (some ⟨b, 0, none⟩) N c] 30)) 3 (.int .i64 (A : Int))).alloc (.cells #[.int .i64 (S : Int)] 3)
  have d3 := Boxed.new ((w2.alloc (.cells #[.slice (some ⟨b, 0, none⟩) N c] 30)).alloc (.cells #[.int .i64 (A : Int)] 3)) 3 (.int .i64 (S : Int))
  simp only [World.size_alloc] at d2 d3
  have b3 : Below w2.heap.size w2 (((w2.alloc (.cells #[.slice (some ⟨b, 0, none⟩) N c] 30)).alloc (.cells #[.int .i64 (A : Int)] 3)).alloc (.cells #[.int .i64 (S : Int)] 3)) := (((Below.refl w2.heap.size w2).alloc (Nat.le_refl _) _).alloc (by simp) _).alloc (by simp; omega) _
  rintro e W1 ⟨rfl, hW1⟩
  rw [← hW1] at d1 d2 d3 b3
  have B73 := B72.out.kept (grown_of_below b3 none) (by simp)
  have BW := chain HB2.out b3
  have hA3 := hA.below BW hbl
  have hI3 := hI.below BW hsl
  have sw := HB2.out.size
  have sw3 := b3.size
  clear hW1 B72 B7 HB HB2 b3 hA hI
  gi_wp2
  refine rangeN (gf := 101) (lb := #[.pointer (some ⟨w2.heap.size, 0, none⟩), .pointer (some ⟨w2.heap.size + 1, 0, none⟩), .pointer (some ⟨w2.heap.size + 2, 0, none⟩)]) rfl (enters_of Tryz.func101 (by kernel_rfl) rfl)
    (rows_seq b N c A S fitN.1 hNc fitN.2.1 fitN.2.2 11 (by decide) w2.heap.size _ _ _ (Nat.le_refl _) (by omega) (by omega) W1 d1 d2 d3) kpA_t kpA_l (fun _ => rfl)
    (fun pre V => Arr V .u8 b R (layR A S s f pre) ∧ Ints V .u8 sb so 64 s ∧ Boxed V (w.heap.size + 1) 30 (.slice (some ⟨sb, so, none⟩) 64 sc) ∧ w.grownBy V (some b))
    (fun c pre V => False)
    (OwnFrom.and (own_arr (by omega) (layR A S s f)) (OwnFrom.and (own_ints (by omega) s) (OwnFrom.and (Own.from (boxed_own _ _ (fun _ => _)) _) (own_grown (some b) (by omega)))))
    (fun c => fun s A C row h hg hr => h.elim)
    ⟨hA3, hI3, B73, grown_of_below BW _⟩
    (fun x a' V => a' = { tmps := #[.slice (some ⟨b, 0, none⟩) N c, .agg #[.int .i64 n, .int .i64 g, .int .i64 a], .int .i64 k, .slice (some ⟨sb, so, none⟩) 64 sc, undef, .pointer (some ⟨w.heap.size, 0, none⟩), undef, .pointer (some ⟨w.heap.size + 1, 0, none⟩), .int .i64 0, .int .i64 (N : Int), .int .i64 0, .int .i64 (A : Int), .int .i64 (S : Int), .int .i64 (x.val : Int), .slice (some ⟨b, A + x.val * S, none⟩) 8 (c - (A + x.val * S)), .tuple #[.int .i64 (N : Int), .int .i64 0], .agg #[.int .i64 n, .int .i64 g, .int .i64 a], .tuple #[.int .i64 (N : Int), .int .i64 0], .int .i64 (N : Int), .int .i64 0, .bool false, .int .i64 0, .bool false, undef, .bool false, .slice (some ⟨b, 0, none⟩) N c, .int .i64 (N : Int), .int .i64 (N : Int), .bool false, .bool false, .slice (some ⟨sb, so, none⟩) 64 sc, .int .i64 64, .bool false, .bool false, .tuple #[.int .i64 (A : Int), .int .i64 (S : Int), .int .i64 0], .pointer (some ⟨w.heap.size, 0, none⟩), .int .i64 n, .pointer (some ⟨w.heap.size, 1, none⟩), .int .i64 g, .pointer (some ⟨w.heap.size, 2, none⟩), .int .i64 a, .int .i64 k, .tuple #[.int .i64 (A : Int), .int .i64 (S : Int), .int .i64 0], .int .i64 (A : Int), .int .i64 (S : Int), .int .i64 0, .int .i64 0, .bool false, undef, .slice (some ⟨b, 0, none⟩) N c, .int .i64 (A : Int), .int .i64 (S : Int), .func (.func 101) #[] #[.pointer (some ⟨w2.heap.size, 0, none⟩), .pointer (some ⟨w2.heap.size + 1, 0, none⟩), .pointer (some ⟨w2.heap.size + 2, 0, none⟩)], .int .i64 (x.val : Int), .slice (some ⟨b, A + x.val * S, none⟩) 8 (c - (A + x.val * S)), undef, undef, undef, undef, undef, undef, undef, undef, undef], defers := [] })
    (fun x a' => fun s A C row h hg hr => h)
    ?assign ?body ?done ?stop
  case assign =>
    rintro l pre x V K sV hl ⟨h1, h2, h3, h4⟩ hK
    dsimp only [encR]
    gi_wp2
    exact hK _ _ (KeepsFrom.refl _ _) (kpA_refl V) ⟨h1, h2, h3, h4⟩ rfl
  case body =>
    rintro l pre x a' V hl ⟨r, hr⟩ ⟨h1, h2, h3, h4⟩ rfl hlt
    have xb := x.isLt
    obtain ⟨y, hy⟩ : ∃ y : Nat, x.val = y := ⟨_, rfl⟩
    obtain ⟨q, hq⟩ : ∃ q : Nat, 8 * y = q := ⟨_, rfl⟩
    obtain ⟨o, ho⟩ : ∃ o : Nat, A + y * S = o := ⟨_, rfl⟩
    have hyS : y * S ≤ 7 * S := Nat.mul_le_mul_right S (by omega)
    have ob : o + 8 ≤ N := by omega
    have qb : q ≤ 56 := by omega
    have c7 := h3.cell
    have e1 : IntKind.i64.wrap (8 * (y : Int)) = (q : Int) := by rw [show 8 * (y : Int) = (q : Int) by omega]; exact IntWalk.i64_in _ (by omega)
    have e2 : IntKind.i64.wrap ((q : Int) + 8) = (q : Int) + 8 := IntWalk.i64_in _ (by omega)
    have sl := fun W => slice_row sb so 64 sc q (by omega) hsc W
    have src : ∀ j, j < 8 → V.cell? ((⟨sb, so + q, none⟩ : Addr).add j) = some (.int .u8 (s (q + j))) := fun j hj => by
      have := h2 (q + j) (by omega)
      rw [← Nat.add_assoc] at this
      rw [Addr.add_lit]
      exact this
    have SRC := Lib.hid src
    have HA := Lib.hid h1
    have HI := Lib.hid h2
    have HB := Lib.hid h3
    have HG := Lib.hid h4
    have LR : Hid (layR A S s f (pre ++ [x]) = fun i => if o ≤ i ∧ i < o + 8 then s (q + (i - o)) else layR A S s f pre i) := Lib.hid (by
      rw [layR_snoc]
      funext i
      unfold putRow
      rw [hy, hq, ho])
    rw [hy] at xb
    rw [hy, ho]
    have HY := Lib.hid (And.intro hy (And.intro hq ho))
    clear src h1 h2 h3 h4 hy hq ho hyS hr
    gi_wp2_with (refine wpListIn_copy_arr rfl (.tmp 55) (.tmp 62) 30 30 rfl 5 Tryz.underlying30 size_byte b R o 8 _ _ (layR A S s f pre) (fun j => s (q + j)) ⟨sb, so + q, none⟩ rfl rfl HA.out (by omega) SRC.out ?_; intro V' hA' hG')
    have a1 : Arr V' .u8 b R (layR A S s f (pre ++ [x])) := by rw [LR.out]; exact hA'.out
    exact ⟨KeepsFrom.of_grownBy hG'.out (fun j e => by cases e; omega), kpA_grown hG'.out (by omega), a1, HI.out.grown hG'.out (fun e => hne (Option.some.inj e)), HB.out.kept hG'.out (fun e => by have := Option.some.inj e; omega), grown_trans HG.out hG'.out⟩
  case stop =>
    rintro Dd c pre V hD hSp h hK
    exact h.elim
  case done =>
    rintro Dd ys V hD rfl ⟨h1, h2, h3, h4⟩ hK
    have gp := grownBy_putObj' V Dd (.deferred none)
    have a1 : Arr (V.putObj Dd (.deferred none)) .u8 b R (layN A S s f 64) := by rw [← layR_all]; exact h1.grown gp (fun e => by have := Option.some.inj e; omega)
    have a2 := own_grown (β := Unit) (some b) (Nat.le_refl w.heap.size) () V _ (some Dd) h4 gp (fun r e => by cases e; exact ⟨by omega, _, hK, rfl⟩)
    have A1 := Lib.hid a1
    have A2 := Lib.hid a2
    clear h1 h2 h3 h4 gp a1 a2
    gi_wp2
    refine ⟨by simp, .inl ⟨_, _, rfl, run_takeDeferred hK, ?_⟩⟩
    exact ⟨_, results_tmp rfl _ _ _, rfl, A1.out, A2.out⟩
end Pa
end Go.Proofs.YtbmglemjfodfhaaGreat
namespace Go.Proofs.YtbmglemjfodfhaaGreat
open Go.RowKit Go.Shelf
namespace Pa
open Fr Pt
theorem pl_eq (n g a k : Int) : Rf.plA n g a k = pA n g a k ∧ Rf.plS n g a k = pS n g a k ∧ Rf.plE n g a k = pE n g a k := by
  have e : Rf.plE n g a k = pE n g a k := rfl
  refine ⟨?_, ?_, e⟩
  · unfold Rf.plA pA
    rw [e]
    rfl
  · unfold Rf.plS pS
    rw [e]
    rfl
theorem sl_new1 (w : World) (x : Int) (b : Nat) (hb : b = w.heap.size) : Sl .i64 (w.alloc (.cells #[.int .i64 x] 3)) (.slice (some ⟨b, 0, none⟩) 1 1) 1 (fun _ => x) := by
  subst hb
  have h := Arr.new w .i64 #[.int .i64 x] 3 1 (fun _ => x) (fun i hi => match i, hi with | 0, _ => rfl)
  exact ⟨_, 1, rfl, Nat.le_refl _, by decide, .inr ⟨_, 0, rfl, by simp, h.ints⟩⟩
def twoF (x y : Int) (i : Nat) : Int := if i = 0 then x else y
theorem sl_new2 (w : World) (x y : Int) (b : Nat) (hb : b = w.heap.size) : Sl .i64 (w.alloc (.cells #[.int .i64 x, .int .i64 y] 3)) (.slice (some ⟨b, 0, none⟩) 2 2) 2 (twoF x y) := by
  subst hb
  have h := Arr.new w .i64 #[.int .i64 x, .int .i64 y] 3 2 (twoF x y) (fun i hi => by
    rcases (by omega : i = 0 ∨ i = 1) with rfl | rfl <;> rfl)
  exact ⟨_, 2, rfl, Nat.le_refl _, by decide, .inr ⟨_, 0, rfl, by simp, h.ints⟩⟩
def allZ (z : Int) (f : Nat → Int) (k : Nat) : Prop := ∀ i, i < k → f i = z
instance (z : Int) (f : Nat → Int) (k : Nat) : Decidable (allZ z f k) := inferInstanceAs (Decidable (∀ i, i < k → f i = z))
def refE (n g a : Int) (m : Nat) (f : Nat → Int) : Int := if cE n g a ≠ 0 then cE n g a else if allZ (zV n) f m then 0 else 2
theorem rrefuses_any (n g a : Int) (v : Value) (m : Nat) (f : Nat → Int) (w : World) (hm : m ≤ 10) (h0 : 0 < m) (hs : Sl .i64 w v m f) :
    Calls Tryz.prog 115 #[.agg #[.int .i64 n, .int .i64 g, .int .i64 a], v] w fun e w' => e = .returned (.int .i64 (refE n g a m f)) ∧ Below w.heap.size w w' := by
  obtain ⟨p, c, rfl, hc1, _, d⟩ := hs
  rcases d with ⟨h, _⟩ | ⟨b, o, rfl, hb, hI⟩
  · omega
  by_cases hc : cE n g a = 0
  · have ht : n = 0 ∨ n = 1 := (cE_cases n g a hc).1
    obtain ⟨z, hz⟩ : ∃ z, zV n = z := ⟨_, rfl⟩
    have hE : refE n g a m f = if allZ z f m then 0 else 2 := by unfold refE; rw [if_neg (by omega), hz]
    have HE := Lib.hid hE
    have HC := Lib.hid hc
    have HZ := Lib.hid hz
    have HI := Lib.hid hI
    clear hc hE hz hI
    go_enter Tryz.func115, Tryz.ntmps115
    go_wp2_with (first
      | (go_at_call 59; refine (Rf.rCorner_any n g a _).mono ?_; rintro e w1 ⟨rfl, hB⟩; rw [HC.out]; have HB := Lib.hid (chain (((Below.refl w.heap.size w).alloc (Nat.le_refl _) _)) hB); have c0 := (bcell hB).1 w.heap.size; clear hB)
      | (go_at_call 77; refine (Rf.rSize_any n _).mono ?_; rintro e w2 ⟨rfl, rfl⟩; rw [HZ.out]))
    have HJ := Lib.hid (HI.out.below HB.out hb)
    go_loopw [12] (fun i wr => ∃ k : Nat, k ≤ m ∧ i = .int .i64 k ∧ allZ z f k ∧ wr = w1) (fun i _ => m - (intOf i).toNat)
    case atStart => exact ⟨0, by omega, rfl, fun i hi => by omega, rfl⟩
    case round =>
      obtain ⟨k, hk, rfl, hok, hw⟩ := hrel
      obtain rfl := hw.symm
      have OK := Lib.hid hok
      clear hok hw
      by_cases hkn : k < m
      · have e1 := HJ.out k hkn
        have b1 : (0 : Int) ≤ (k : Int) ∧ (k : Int) < (m : Int) := by omega
        by_cases l1 : f k = z
        · have OK2 : Hid (allZ z f (k + 1)) := Lib.hid (fun i hi => by
            by_cases e : i = k
            · subst e; exact l1
            · exact OK.out i (by omega))
          have t1 : (f k != z) = false := by simp [l1]
          clear l1
          go_wp2_with fail
          go_roundw
          case rel => exact ⟨k + 1, by omega, by go_num, OK2.out, by trivial⟩
          case measure => simp [intOf]; omega
        · have E : Hid (refE n g a m f = 2) := Lib.hid (by rw [HE.out, if_neg (fun h => l1 (h k hkn))])
          have t1 : (f k != z) = true := by simp [l1]
          clear l1
          go_wp2_with fail
          go_ret
          exact ⟨by rw [E.out]; rfl, HB.out⟩
      · obtain rfl : k = m := by omega
        have E : Hid (refE n g a k f = 0) := Lib.hid (by rw [HE.out, if_pos OK.out])
        go_wp2_with fail
        go_ret
        exact ⟨by rw [E.out]; rfl, HB.out⟩
  · have E : Hid (refE n g a m f = cE n g a) := Lib.hid (by unfold refE; rw [if_pos hc])
    obtain ⟨x, hx⟩ : ∃ x, cE n g a = x := ⟨_, rfl⟩
    have HX := Lib.hid hx
    rw [hx] at hc
    have t0 : (x != 0) = true := by simpa using hc
    clear hc hx hI
    go_enter Tryz.func115, Tryz.ntmps115
    go_wp2_with (go_at_call 59; refine (Rf.rCorner_any n g a _).mono ?_; rintro e w1 ⟨rfl, hB⟩; rw [HX.out]; have HB := Lib.hid (chain (((Below.refl w.heap.size w).alloc (Nat.le_refl _) _)) hB); clear hB)
    go_ret
    exact ⟨by rw [E.out, HX.out]; rfl, HB.out⟩
theorem rlay_no1 (p q : Option Addr) (N c M d : Nat) (n g a k : Int) (w : World) (hc : refE n g a 1 (fun _ => (N : Int)) ≠ 0) :
    Calls Tryz.prog 70 #[.slice p N c, .agg #[.int .i64 n, .int .i64 g, .int .i64 a], .int .i64 k, .slice q M d] w fun e w' => e = .returned (.int .i64 (refE n g a 1 (fun _ => (N : Int)))) ∧ Below w.heap.size w w' := by
  obtain ⟨x, hx⟩ : ∃ x, refE n g a 1 (fun _ => (N : Int)) = x := ⟨_, rfl⟩
  have HX := Lib.hid hx
  rw [hx] at hc
  have t0 : (x != 0) = true := by simpa using hc
  clear hc hx
  go_enter Tryz.func70, Tryz.ntmps70
  go_wp2_with (go_at_call 115; refine (rrefuses_any n g a _ 1 _ _ (by omega) (by omega) (sl_new1 _ _ _ (by simp))).mono ?_; rintro e w1 ⟨rfl, hB⟩; rw [HX.out]; have HB := Lib.hid (chain ((((Below.refl w.heap.size w).alloc (Nat.le_refl _) _)).alloc (by simp) _) hB); clear hB)
  go_ret
  exact ⟨by rw [HX.out]; rfl, HB.out⟩
theorem rlay_no2 (p q : Option Addr) (N c M d : Nat) (n g a k : Int) (w : World) (hc : refE n g a 1 (fun _ => (N : Int)) = 0) (hM : M ≠ 64) :
    Calls Tryz.prog 70 #[.slice p N c, .agg #[.int .i64 n, .int .i64 g, .int .i64 a], .int .i64 k, .slice q M d] w fun e w' => e = .returned (.int .i64 2) ∧ Below w.heap.size w w' := by
  have HX := Lib.hid hc
  have t0 : ((M : Int) != 64) = true := by simp; omega
  clear hc hM
  go_enter Tryz.func70, Tryz.ntmps70
  go_wp2_with (go_at_call 115; refine (rrefuses_any n g a _ 1 _ _ (by omega) (by omega) (sl_new1 _ _ _ (by simp))).mono ?_; rintro e w1 ⟨rfl, hB⟩; rw [HX.out]; have HB := Lib.hid (chain ((((Below.refl w.heap.size w).alloc (Nat.le_refl _) _)).alloc (by simp) _) hB); clear hB)
  go_ret
  exact ⟨rfl, HB.out⟩
theorem rlay_no3 (p q : Option Addr) (N c d : Nat) (n g a k : Int) (w : World) (hc : refE n g a 1 (fun _ => (N : Int)) = 0) (hP : pE n g a k ≠ 0) :
    Calls Tryz.prog 70 #[.slice p N c, .agg #[.int .i64 n, .int .i64 g, .int .i64 a], .int .i64 k, .slice q 64 d] w fun e w' => e = .returned (.int .i64 (pE n g a k)) ∧ Below w.heap.size w w' := by
  obtain ⟨x, hx⟩ : ∃ x, pE n g a k = x := ⟨_, rfl⟩
  have HP : Hid (Rf.plE n g a k = x) := Lib.hid (by rw [(pl_eq n g a k).2.2, hx])
  have HQ := Lib.hid hx
  rw [hx] at hP
  have t0 : (x != 0) = true := by simpa using hP
  have HX := Lib.hid hc
  clear hc hP hx
  go_enter Tryz.func70, Tryz.ntmps70
  go_wp2_with (first
    | (go_at_call 115; refine (rrefuses_any n g a _ 1 _ _ (by omega) (by omega) (sl_new1 _ _ _ (by simp))).mono ?_; rintro e w1 ⟨rfl, hB⟩; rw [HX.out]; have HB := Lib.hid (chain ((((Below.refl w.heap.size w).alloc (Nat.le_refl _) _)).alloc (by simp) _) hB); have c0 := (bcell hB).1 w.heap.size; clear hB)
    | (go_at_call 116; refine (Rf.rPlace_any n g a k _).mono ?_; rintro e w2 ⟨rfl, hB⟩; rw [HP.out]; have HB2 := Lib.hid (chain HB.out hB); clear hB))
  go_ret
  exact ⟨by rw [HQ.out]; rfl, HB2.out⟩
set_option maxRecDepth 100000 in
set_option maxHeartbeats 1000000 in
theorem rlay_yes (b N c sb so sc A S : Nat) (f s : Nat → Int) (n g a k : Int) (w : World) (hA : Arr w .u8 b N f) (hI : Ints w .u8 sb so 64 s) (hne : sb ≠ b) (hc : cE n g a = 0) (hN : (N : Int) = zV n) (hk : 1 ≤ k ∧ k ≤ 6) (hAp : (A : Int) = pA n g a k) (hSp : (S : Int) = pS n g a k) :
    Calls Tryz.prog 70 #[.slice (some ⟨b, 0, none⟩) N c, .agg #[.int .i64 n, .int .i64 g, .int .i64 a], .int .i64 k, .slice (some ⟨sb, so, none⟩) 64 sc] w fun e w' => e = .returned (.int .i64 0) ∧ Arr w' .u8 b N (layN A S s f 64) ∧ w.grownBy w' (some b) := by
  have fit := place_fit n g a k hc hk
  have zb : zV n ≤ 152064 := by rcases (cE_cases n g a hc).1 with rfl | rfl <;> decide
  have fitN : A + 7 * S + 8 ≤ N ∧ A ≤ 200000 ∧ S ≤ 400 := by omega
  have HX : Hid (refE n g a 1 (fun _ => (N : Int)) = 0) := Lib.hid (by unfold refE; rw [if_neg (by omega), if_pos (show allZ (zV n) (fun _ => (N : Int)) 1 from fun i _ => hN)])
  have HP : Hid (Rf.plE n g a k = 0) := Lib.hid (by rw [(pl_eq n g a k).2.2]; unfold pE; rw [if_neg (by omega), if_neg (by omega)])
  have HA1 : Hid (Rf.plA n g a k = (A : Int)) := Lib.hid (by rw [(pl_eq n g a k).1, hAp])
  have HS1 : Hid (Rf.plS n g a k = (S : Int)) := Lib.hid (by rw [(pl_eq n g a k).2.1, hSp])
  have hbl := hA.lt (by omega)
  have hsl := hI.lt (by omega)
  have HA := Lib.hid hA
  have HI := Lib.hid hI
  clear hc hN hk fit zb hAp hSp hA hI
  go_enter Tryz.func70, Tryz.ntmps70
  go_wp2_with (first
    | (go_at_call 115; refine (rrefuses_any n g a _ 1 _ _ (by omega) (by omega) (sl_new1 _ _ _ (by simp))).mono ?_; rintro e w1 ⟨rfl, hB⟩; rw [HX.out]; have HB := Lib.hid (chain ((((Below.refl w.heap.size w).alloc (Nat.le_refl _) _)).alloc (by simp) _) hB); have c0 := (bcell hB).1 w.heap.size; clear hB)
    | (go_at_call 116; refine (Rf.rPlace_any n g a k _).mono ?_; rintro e w2 ⟨rfl, hB⟩; rw [HP.out, HA1.out, HS1.out]; have HB2 := Lib.hid (chain HB.out hB); clear hB c0))
  go_loopw [13] (fun i wr => ∃ j : Nat, j ≤ 64 ∧ i = .int .i64 j ∧ Arr wr .u8 b N (layN A S s f j) ∧ Ints wr .u8 sb so 64 s ∧ w.grownBy wr (some b)) (fun i _ => 64 - (intOf i).toNat)
  case atStart => exact ⟨0, by omega, rfl, HA.out.below HB2.out hbl, HI.out.below HB2.out hsl, grown_of_below HB2.out _⟩
  case round =>
    obtain ⟨j, hj, rfl, h1, h2, h3⟩ := hrel
    clear HB HB2
    by_cases hj64 : j < 64
    · have hjS : j / 8 * S ≤ 7 * S := Nat.mul_le_mul_right S (by omega)
      obtain ⟨t, ht⟩ : ∃ t : Nat, j / 8 = t := ⟨_, rfl⟩
      obtain ⟨r, hr⟩ : ∃ r : Nat, j % 8 = r := ⟨_, rfl⟩
      obtain ⟨q, hq⟩ : ∃ q : Nat, t * S = q := ⟨_, rfl⟩
      obtain ⟨p, hp⟩ : ∃ p : Nat, A + q + r = p := ⟨_, rfl⟩
      rw [ht, hq] at hjS
      have hpN : p < N := by omega
      have htI : (j : Int) / 8 = (t : Int) := by omega
      have hrI : (j : Int) % 8 = (r : Int) := by omega
      have hqI : (t : Int) * (S : Int) = (q : Int) := by rw [← hq]; push_cast; rfl
      have hpI : (A : Int) + (q : Int) + (r : Int) = (p : Int) := by omega
      have pb : (0 : Int) ≤ (p : Int) ∧ (p : Int) < (N : Int) := by omega
      have jb : (0 : Int) ≤ (j : Int) ∧ (j : Int) < 64 := by omega
      have qb : (0 : Int) ≤ (q : Int) ∧ (q : Int) ≤ 2800 := by omega
      have rb : (0 : Int) ≤ (r : Int) ∧ (r : Int) ≤ 8 := by omega
      have ab : (0 : Int) ≤ (A : Int) ∧ (A : Int) ≤ 200000 := by omega
      have ca := h1 p hpN
      have cs := h2 j hj64
      obtain ⟨x, hx⟩ : ∃ x, s j = x := ⟨_, rfl⟩
      rw [hx] at cs
      have LN : Hid (layN A S s f (j + 1) = fun i => if i = p then x else layN A S s f j i) := Lib.hid (by
        funext i
        show putOne A S s (layN A S s f j) j i = _
        unfold putOne
        rw [ht, hr, hq, hp, hx])
      have HA := Lib.hid h1
      have HI := Lib.hid h2
      have HG := Lib.hid h3
      have e1 : IntKind.i64.wrap ((t : Int) * (S : Int)) = (q : Int) := by rw [hqI]; exact IntWalk.i64_in _ (by omega)
      clear h1 h2 h3 ht hr hq hp hqI hx hjS
      go_wp2_with fail
      clear e1
      go_roundw
      case rel => exact ⟨j + 1, by omega, by go_num, by rw [LN.out]; exact HA.out.set p x, HI.out.far (fun e => hne e.symm) _, grown_set HG.out _ _⟩
      case measure => simp [intOf]; omega
    · obtain rfl : j = 64 := by omega
      have HA := Lib.hid h1
      have HG := Lib.hid h3
      clear h1 h2 h3
      go_wp2_with fail
      go_ret
      exact ⟨rfl, HA.out, HG.out⟩
end Pa
end Go.Proofs.YtbmglemjfodfhaaGreat
namespace Go.Proofs.YtbmglemjfodfhaaGreat
open Go.RowKit Go.Shelf
namespace Pa
open Fr Pt
def blA (n g a : Int) (k : Nat) : Nat := (pA n g a k).toNat
def blS (n g a : Int) (k : Nat) : Nat := (pS n g a k).toNat
def srcF (A S : Nat) (F : Nat → Int) (j : Nat) : Int := F (A + j / 8 * S + j % 8)
def copF (n g a : Int) (F f : Nat → Int) : Nat → Nat → Int
  | 0 => f
  | k + 1 => layN (blA n g a (k + 1)) (blS n g a (k + 1)) (srcF (blA n g a (k + 1)) (blS n g a (k + 1)) F) (copF n g a F f k) 64
def copE (n g a : Int) (N M : Nat) : Int := refE n g a 2 (twoF (N : Int) (M : Int))
theorem copE_zero {n g a : Int} {N M : Nat} (h : copE n g a N M = 0) : cE n g a = 0 ∧ (N : Int) = zV n ∧ (M : Int) = zV n := by
  unfold copE refE at h
  by_cases hc : cE n g a = 0
  · rw [if_neg (by omega)] at h
    by_cases ha : allZ (zV n) (twoF (N : Int) (M : Int)) 2
    · exact ⟨hc, ha 0 (by omega), ha 1 (by omega)⟩
    · rw [if_neg ha] at h; omega
  · rw [if_pos hc] at h; omega
theorem copE_ok {n g a : Int} {N M : Nat} (hc : cE n g a = 0) (hN : (N : Int) = zV n) (hM : (M : Int) = zV n) : copE n g a N M = 0 := by
  unfold copE refE
  rw [if_neg (by omega), if_pos]
  intro i hi
  rcases (by omega : i = 0 ∨ i = 1) with rfl | rfl
  · exact hN
  · exact hM
theorem bl_fit (n g a : Int) (k : Nat) (hc : cE n g a = 0) (hk : 1 ≤ k ∧ k ≤ 6) : (blA n g a k : Int) = pA n g a k ∧ (blS n g a k : Int) = pS n g a k ∧ (blA n g a k : Int) + 7 * blS n g a k + 8 ≤ zV n ∧ 8 ≤ blS n g a k ∧ blA n g a k ≤ 200000 ∧ blS n g a k ≤ 400 := by
  have fit := place_fit n g a k hc (by omega)
  have zb : zV n ≤ 152064 := by rcases (cE_cases n g a hc).1 with rfl | rfl <;> decide
  unfold blA blS
  omega
theorem rcopy_no (p q : Option Addr) (N c M d : Nat) (n g a : Int) (w : World) (hc : copE n g a N M ≠ 0) :
    Calls Tryz.prog 71 #[.slice p N c, .slice q M d, .agg #[.int .i64 n, .int .i64 g, .int .i64 a]] w fun e w' => e = .returned (.int .i64 (copE n g a N M)) ∧ Below w.heap.size w w' := by
  obtain ⟨x, hx⟩ : ∃ x, refE n g a 2 (twoF (N : Int) (M : Int)) = x := ⟨_, rfl⟩
  have HX := Lib.hid hx
  have HE : Hid (copE n g a N M = x) := Lib.hid hx
  rw [show copE n g a N M = x from hx] at hc
  have t0 : (x != 0) = true := by simpa using hc
  clear hc hx
  go_enter Tryz.func71, Tryz.ntmps71
  go_wp2_with (go_at_call 115; refine (rrefuses_any n g a _ 2 _ _ (by omega) (by omega) (sl_new2 _ _ _ _ (by simp))).mono ?_; rintro e w1 ⟨rfl, hB⟩; rw [HX.out]; have HB := Lib.hid (chain ((((Below.refl w.heap.size w).alloc (Nat.le_refl _) _)).alloc (by simp) _) hB); clear hB)
  go_ret
  exact ⟨by rw [HE.out]; rfl, HB.out⟩
def SpotAt (w : World) (B : Nat) (n g a : Int) : Prop := w.heap[B]? = some (.cells #[.int .i64 n, .int .i64 g, .int .i64 a] 28 (0, 0))
theorem SpotAt.kept {w w' : World} {B : Nat} {n g a : Int} {row : Option Nat} (h : SpotAt w B n g a) (hg : w.grownBy w' row) (hne : some B ≠ row) : SpotAt w' B n g a := (hg.block B (Array.getElem?_eq_some_iff.1 h).1 hne).trans h
theorem SpotAt.lt {w : World} {B : Nat} {n g a : Int} (h : SpotAt w B n g a) : B < w.heap.size := (Array.getElem?_eq_some_iff.1 h).1
theorem SpotAt.cells {w : World} {B : Nat} {n g a : Int} (h : SpotAt w B n g a) : w.cell? ⟨B, 0, none⟩ = some (.int .i64 n) ∧ w.cell? ⟨B, 1, none⟩ = some (.int .i64 g) ∧ w.cell? ⟨B, 2, none⟩ = some (.int .i64 a) := cells3 h
set_option maxRecDepth 100000 in
set_option maxHeartbeats 1000000 in
theorem rcopy_yes (b N c fb fo d : Nat) (f F : Nat → Int) (n g a : Int) (w : World) (hA : Arr w .u8 b N f) (hI : Ints w .u8 fb fo N F) (hne : fb ≠ b) (hc : cE n g a = 0) (hN : (N : Int) = zV n) :
    Calls Tryz.prog 71 #[.slice (some ⟨b, 0, none⟩) N c, .slice (some ⟨fb, fo, none⟩) N d, .agg #[.int .i64 n, .int .i64 g, .int .i64 a]] w fun e w' => e = .returned (.int .i64 0) ∧ Arr w' .u8 b N (copF n g a F f 6) ∧ w.grownBy w' (some b) := by
  have zb : 38016 ≤ zV n := by rcases (cE_cases n g a hc).1 with rfl | rfl <;> decide
  have HX : Hid (refE n g a 2 (twoF (N : Int) (N : Int)) = 0) := Lib.hid (copE_ok hc hN hN)
  have BF : Hid (∀ k : Nat, 1 ≤ k ∧ k ≤ 6 → ((Rf.plA n g a k = (blA n g a k : Int) ∧ Rf.plS n g a k = (blS n g a k : Int)) ∧ Rf.plE n g a k = 0) ∧ blA n g a k + 7 * blS n g a k + 8 ≤ N ∧ blA n g a k ≤ 200000 ∧ blS n g a k ≤ 400) := Lib.hid (fun k hk => by
    have h := bl_fit n g a k hc hk
    refine ⟨⟨⟨by rw [(pl_eq n g a k).1, h.1], by rw [(pl_eq n g a k).2.1, h.2.1]⟩, by rw [(pl_eq n g a k).2.2]; unfold pE; rw [if_neg (by omega), if_neg (by omega)]⟩, ?_⟩
    omega)
  have hbl := hA.lt (by omega)
  have hsl := hI.lt (by omega)
  have HA := Lib.hid hA
  have HI := Lib.hid hI
  have s0 : SpotAt (w.alloc (.cells #[.int .i64 n, .int .i64 g, .int .i64 a] 28)) w.heap.size n g a := heap_alloc_new w _
  clear hc hN zb hA hI
  go_enter Tryz.func71, Tryz.ntmps71
  go_wp2_with (go_at_call 115; refine (rrefuses_any n g a _ 2 _ _ (by omega) (by omega) (sl_new2 _ _ _ _ (by simp))).mono ?_; rintro e w1 ⟨rfl, hB⟩; rw [HX.out]; have HB := Lib.hid (chain ((((Below.refl w.heap.size w).alloc (Nat.le_refl _) _)).alloc (by simp) _) hB); have HS := Lib.hid ((s0.kept (World.grownBy_alloc _ _ none) (by simp)).kept (grown_of_below hB none) (by simp)); clear hB s0)
  go_loopw [8, 12] (fun i _ wr => ∃ k : Nat, k ≤ 6 ∧ i = .int .i64 ((k : Int) + 1) ∧ Arr wr .u8 b N (copF n g a F f k) ∧ Ints wr .u8 fb fo N F ∧ SpotAt wr w.heap.size n g a ∧ w.grownBy wr (some b)) (fun i _ _ => 7 - (intOf i).toNat)
  case atStart => exact ⟨0, by omega, rfl, HA.out.below HB.out hbl, HI.out.below HB.out hsl, HS.out, grown_of_below HB.out _⟩
  case round =>
    obtain ⟨k, hk, rfl, h1, h2, h3, h4⟩ := hrel
    clear HB HS
    by_cases hk6 : k < 6
    · obtain ⟨⟨⟨pa, ps⟩, pe⟩, fit⟩ := BF.out (k + 1) (by omega)
      rw [show ((k + 1 : Nat) : Int) = (k : Int) + 1 by omega] at pa ps pe
      obtain ⟨A, hAe⟩ : ∃ A, blA n g a (k + 1) = A := ⟨_, rfl⟩
      obtain ⟨S, hSe⟩ : ∃ S, blS n g a (k + 1) = S := ⟨_, rfl⟩
      rw [hAe] at pa fit
      rw [hSe] at ps fit
      have PA := Lib.hid pa
      have PS := Lib.hid ps
      have PE := Lib.hid pe
      have EN : Hid (copF n g a F f (k + 1) = layN A S (srcF A S F) (copF n g a F f k) 64) := Lib.hid (by rw [← hAe, ← hSe]; rfl)
      obtain ⟨c0, c1, c2⟩ := h3.cells
      have HA := Lib.hid h1
      have HI := Lib.hid h2
      have HS := Lib.hid h3
      have HG := Lib.hid h4
      have sz := h4.size
      clear pa ps pe hAe hSe h1 h2 h3 h4
      have kb : (k : Int) + 1 ≤ 6 := by omega
      go_wp2_with (go_at_call 116; refine (Rf.rPlace_any n g a ((k : Int) + 1) _).mono ?_; rintro e w2 ⟨rfl, hB⟩; rw [PA.out, PS.out, PE.out]; have HA := Lib.hid (HA.out.below hB (by omega)); have HI := Lib.hid (HI.out.below hB (by omega)); have HS := Lib.hid (HS.out.kept (grown_of_below hB none) (by simp)); have HG := Lib.hid (grown_trans HG.out (grown_of_below hB _)); clear hB c0 c1 c2)
      obtain ⟨h0, hh0⟩ : ∃ h0, copF n g a F f k = h0 := ⟨_, rfl⟩
      rw [hh0] at HA EN
      clear hh0
      go_loopw [12] (fun i wr => ∃ j : Nat, j ≤ 64 ∧ i = .int .i64 j ∧ Arr wr .u8 b N (layN A S (srcF A S F) h0 j) ∧ Ints wr .u8 fb fo N F ∧ SpotAt wr w.heap.size n g a ∧ w.grownBy wr (some b)) (fun i _ => 64 - (intOf i).toNat)
      case atStart => exact ⟨0, by omega, rfl, HA.out, HI.out, HS.out, HG.out⟩
      case round =>
        clear HA HI HS HG
        obtain ⟨j, hj, rfl, h1, h2, h3, h4⟩ := hrel
        by_cases hj64 : j < 64
        · have hjS : j / 8 * S ≤ 7 * S := Nat.mul_le_mul_right S (by omega)
          obtain ⟨t, ht⟩ : ∃ t : Nat, j / 8 = t := ⟨_, rfl⟩
          obtain ⟨r, hr⟩ : ∃ r : Nat, j % 8 = r := ⟨_, rfl⟩
          obtain ⟨q, hq⟩ : ∃ q : Nat, t * S = q := ⟨_, rfl⟩
          obtain ⟨p, hp⟩ : ∃ p : Nat, A + q + r = p := ⟨_, rfl⟩
          rw [ht, hq] at hjS
          have hpN : p < N := by omega
          have htI : (j : Int) / 8 = (t : Int) := by omega
          have hrI : (j : Int) % 8 = (r : Int) := by omega
          have hqI : (t : Int) * (S : Int) = (q : Int) := by rw [← hq]; push_cast; rfl
          have hpI : (A : Int) + (q : Int) + (r : Int) = (p : Int) := by omega
          have pb : (0 : Int) ≤ (p : Int) ∧ (p : Int) < (N : Int) := by omega
          have jb : (0 : Int) ≤ (j : Int) ∧ (j : Int) < 64 := by omega
          have qb : (0 : Int) ≤ (q : Int) ∧ (q : Int) ≤ 2800 := by omega
          have rb : (0 : Int) ≤ (r : Int) ∧ (r : Int) ≤ 8 := by omega
          have ab : (0 : Int) ≤ (A : Int) ∧ (A : Int) ≤ 200000 := by omega
          have ca := h1 p hpN
          have cs := h2 p hpN
          obtain ⟨x, hx⟩ : ∃ x, F p = x := ⟨_, rfl⟩
          rw [hx] at cs
          have LN : Hid (layN A S (srcF A S F) h0 (j + 1) = fun i => if i = p then x else layN A S (srcF A S F) h0 j i) := Lib.hid (by
            funext i
            show putOne A S (srcF A S F) (layN A S (srcF A S F) h0 j) j i = _
            unfold putOne srcF
            rw [ht, hr, hq, hp, hx])
          have HA := Lib.hid h1
          have HI := Lib.hid h2
          have HS := Lib.hid h3
          have HG := Lib.hid h4
          have sz2 := h4.size
          have e1 : IntKind.i64.wrap ((t : Int) * (S : Int)) = (q : Int) := by rw [hqI]; exact IntWalk.i64_in _ (by omega)
          clear h1 h2 h3 h4 ht hr hq hp hqI hx hjS
          go_wp2_with fail
          clear e1
          go_roundw
          case rel => exact ⟨j + 1, by omega, by go_num, by rw [LN.out]; exact HA.out.set p x, HI.out.far (fun e => hne e.symm) _, HS.out.kept (grown_set (World.grownBy.refl _ (some b)) p _) (fun e => by have := Option.some.inj e; omega), grown_set HG.out _ _⟩
          case measure => simp [intOf]; omega
        · have hA64 : Arr wr .u8 b N (copF n g a F f (k + 1)) := by
            obtain rfl : j = 64 := by omega
            rw [EN.out]; exact h1
          have hj' : 64 ≤ j := by omega
          have HA := Lib.hid hA64
          have HI := Lib.hid h2
          have HS := Lib.hid h3
          have HG := Lib.hid h4
          clear h1 h2 h3 h4 hA64
          go_wp2_with fail
          go_roundw
          case rel => exact ⟨k + 1, by omega, by go_num, HA.out, HI.out, HS.out, HG.out⟩
          case measure => simp [intOf]; omega
    · have hA6 : Arr wr .u8 b N (copF n g a F f 6) := by
        obtain rfl : k = 6 := by omega
        exact h1
      have hk' : 6 ≤ k := by omega
      have HA := Lib.hid hA6
      have HG := Lib.hid h4
      clear h1 h2 h3 h4 hA6
      go_wp2_with fail
      go_ret
      exact ⟨rfl, HA.out, HG.out⟩
end Pa
end Go.Proofs.YtbmglemjfodfhaaGreat
namespace Go.Proofs.YtbmglemjfodfhaaGreat
open Go.RowKit Go.Shelf
attribute [local go_sem] Oper.semAt_some
namespace Pa
open Fr Pt
theorem copy_no1 (p q : Option Addr) (N c M d : Nat) (n g a : Int) (w : World) (hc : cE n g a ≠ 0) :
    Calls Tryz.prog 32 #[.slice p N c, .slice q M d, .agg #[.int .i64 n, .int .i64 g, .int .i64 a]] w fun e w' => e = .returned (.int .i64 (copE n g a N M)) ∧ Below w.heap.size w w' := by
  have E : Hid (copE n g a N M = cE n g a) := Lib.hid (by unfold copE refE; rw [if_pos hc])
  obtain ⟨x, hx⟩ : ∃ x, cE n g a = x := ⟨_, rfl⟩
  have HX := Lib.hid hx
  rw [hx] at hc
  have t0 : (x != 0) = true := by simpa using hc
  clear hc hx
  go_enter Tryz.func32, Tryz.ntmps32
  go_wp2_with (go_at_call 55; refine (corner_any n g a _).mono ?_; rintro e w1 ⟨rfl, hB⟩; rw [HX.out]; have HB := Lib.hid (chain ((((Below.refl w.heap.size w).alloc (Nat.le_refl _) _)).alloc (by simp) _) hB); clear hB)
  go_ret
  exact ⟨by rw [E.out, HX.out]; rfl, HB.out⟩
theorem copE_two {n g a : Int} {N M : Nat} (hc : cE n g a = 0) (h : (N : Int) ≠ zV n ∨ (M : Int) ≠ zV n) : copE n g a N M = 2 := by
  unfold copE refE
  rw [if_neg (by omega), if_neg]
  intro ha
  rcases h with h | h
  · exact h (ha 0 (by omega))
  · exact h (ha 1 (by omega))
theorem copy_no2 (p q : Option Addr) (N c M d : Nat) (n g a : Int) (w : World) (hc : cE n g a = 0) (hN : (N : Int) ≠ zV n) :
    Calls Tryz.prog 32 #[.slice p N c, .slice q M d, .agg #[.int .i64 n, .int .i64 g, .int .i64 a]] w fun e w' => e = .returned (.int .i64 (copE n g a N M)) ∧ Below w.heap.size w w' := by
  have E : Hid (copE n g a N M = 2) := Lib.hid (copE_two hc (.inl hN))
  obtain ⟨z, hz⟩ : ∃ z, zV n = z := ⟨_, rfl⟩
  have HZ : Hid (coN n g a = z) := Lib.hid (by unfold coN; rw [if_pos hc, hz])
  have HX := Lib.hid hc
  rw [hz] at hN
  have t0 : ((N : Int) != z) = true := by simpa using hN
  clear hc hz hN
  go_enter Tryz.func32, Tryz.ntmps32
  go_wp2_with (go_at_call 55; refine (corner_any n g a _).mono ?_; rintro e w1 ⟨rfl, hB⟩; rw [HX.out, HZ.out]; have HB := Lib.hid (chain ((((Below.refl w.heap.size w).alloc (Nat.le_refl _) _)).alloc (by simp) _) hB); clear hB)
  go_ret
  exact ⟨by rw [E.out]; rfl, HB.out⟩
theorem copy_no3 (p q : Option Addr) (N c M d : Nat) (n g a : Int) (w : World) (hc : cE n g a = 0) (hN : (N : Int) = zV n) (hM : M ≠ N) :
    Calls Tryz.prog 32 #[.slice p N c, .slice q M d, .agg #[.int .i64 n, .int .i64 g, .int .i64 a]] w fun e w' => e = .returned (.int .i64 (copE n g a N M)) ∧ Below w.heap.size w w' := by
  have E : Hid (copE n g a N M = 2) := Lib.hid (copE_two hc (.inr (by omega)))
  have HZ : Hid (coN n g a = (N : Int)) := Lib.hid (by unfold coN; rw [if_pos hc, hN])
  have HX := Lib.hid hc
  have t0 : ((M : Int) != (N : Int)) = true := by simp; omega
  have t1 : (M != N) = true := by simp; omega
  clear hc hN hM
  go_enter Tryz.func32, Tryz.ntmps32
  go_wp2_with (go_at_call 55; refine (corner_any n g a _).mono ?_; rintro e w1 ⟨rfl, hB⟩; rw [HX.out, HZ.out]; have HB := Lib.hid (chain ((((Below.refl w.heap.size w).alloc (Nat.le_refl _) _)).alloc (by simp) _) hB); have c0 := (bcell hB).1 w.heap.size; clear hB)
  go_ret
  exact ⟨by rw [E.out]; rfl, HB.out⟩
def mkD (D : Nat) : Deferred := { target := .collected D, args := #[] }
def MarksOk (B : Nat) (ms : List Nat) (V : World) : Prop := ms.Nodup ∧ ∀ D ∈ ms, B ≤ D ∧ V.heap[D]? = some (.deferred (some []))
theorem MarksOk.below {B : Nat} {ms : List Nat} {V V' : World} (h : MarksOk B ms V) (hB : Below V.heap.size V V') : MarksOk B ms V' := ⟨h.1, fun D hD => ⟨(h.2 D hD).1, (hB.block D (Array.getElem?_eq_some_iff.1 (h.2 D hD).2).1).trans (h.2 D hD).2⟩⟩
def CopI (w : World) (b N R fb fo d : Nat) (n g a : Int) (F f : Nat → Int) (k : Nat) (V : World) : Prop := Arr V .u8 b R (copF n g a F f k) ∧ Ints V .u8 fb fo N F ∧ SpotAt V (w.heap.size + 1) n g a ∧ Boxed V w.heap.size 30 (.slice (some ⟨fb, fo, none⟩) N d) ∧ w.grownBy V (some b)
theorem own_spot {β : Type} {B : Nat} (D : Nat) (n g a : Int) : OwnFrom B (fun (_ : β) V => SpotAt V D n g a) := fun s A C row h hg hr => h.kept hg (fun e => by
  obtain ⟨_, o, ho, hc⟩ := hr D e.symm
  rw [show A.heap[D]? = _ from h] at ho
  cases ho
  cases hc)
theorem own_marks {β : Type} {B B0 : Nat} {ms : List Nat} (hlt : ∀ D ∈ ms, D < B) : OwnFrom B (fun (_ : β) V => MarksOk B0 ms V) := fun s A C row h hg hr => ⟨h.1, fun D hD => ⟨(h.2 D hD).1, (hg.block D (Array.getElem?_eq_some_iff.1 (h.2 D hD).2).1 (fun e => by have := (hr D e.symm).1; have := hlt D hD; omega)).trans (h.2 D hD).2⟩⟩
theorem leaves_marks {F : Fence} {n : Nat} {P : Program} {fn : Func} {tmps : Array Value} {R : Ending → World → Prop} {Inv : World → Prop} {B : Nat} (hI : ∀ V D, Inv V → B ≤ D → V.heap[D]? = some (.deferred (some [])) → Inv (V.putObj D (.deferred none)))
    (k : ∀ V', Inv V' → LeavesIn F n P fn tmps R [] .returning V') : ∀ (ms : List Nat) (V : World), MarksOk B ms V → Inv V → LeavesInM F n P fn tmps R (ms.map mkD) .returning V
  | [], V, _, h => k V h
  | D :: ms, V, hm, h => by
    have hD := hm.2 D (by simp)
    refine ⟨by simp, .inl ⟨D, _, rfl, run_takeDeferred hD.2, leaves_marks hI k ms _ ⟨(List.nodup_cons.1 hm.1).2, fun E hE => ⟨(hm.2 E (by simp [hE])).1, ?_⟩⟩ (hI V D h hD.1 hD.2)⟩⟩
    exact (World.putObj_heap_other (fun e => (List.nodup_cons.1 hm.1).1 (by rw [← e]; exact hE))).trans (hm.2 E (by simp [hE])).2
set_option maxRecDepth 100000 in
set_option maxHeartbeats 4000000 in
theorem copy_yes (b N R c fb fo d : Nat) (f F : Nat → Int) (n g a : Int) (w : World) (hA : Arr w .u8 b R f) (hR : N ≤ R) (hNc : N ≤ c) (hI : Ints w .u8 fb fo N F) (hNd : N ≤ d) (hne : fb ≠ b) (hc : cE n g a = 0) (hN : (N : Int) = zV n) :
    Calls Tryz.prog 32 #[.slice (some ⟨b, 0, none⟩) N c, .slice (some ⟨fb, fo, none⟩) N d, .agg #[.int .i64 n, .int .i64 g, .int .i64 a]] w fun e w' => e = .returned (.int .i64 0) ∧ Arr w' .u8 b R (copF n g a F f 6) ∧ w.grownBy w' (some b) := by
  have zb : 38016 ≤ zV n := by rcases (cE_cases n g a hc).1 with rfl | rfl <;> decide
  have HZ : Hid (coN n g a = (N : Int)) := Lib.hid (by unfold coN; rw [if_pos hc, hN])
  have HX := Lib.hid hc
  have BF : Hid (∀ k : Nat, 1 ≤ k ∧ k ≤ 6 → ((pA n g a k = (blA n g a k : Int) ∧ pS n g a k = (blS n g a k : Int)) ∧ pE n g a k = 0) ∧ blA n g a k + 7 * blS n g a k + 8 ≤ N ∧ blA n g a k ≤ 200000 ∧ blS n g a k ≤ 400) := Lib.hid (fun k hk => by
    have h := bl_fit n g a k hc hk
    refine ⟨⟨⟨h.1.symm, h.2.1.symm⟩, by unfold pE; rw [if_neg (by omega), if_neg (by omega)]⟩, ?_⟩
    omega)
  have hbl := hA.lt (by omega)
  have hsl := hI.lt (by omega)
  have HA := Lib.hid hA
  have HI := Lib.hid hI
  have s0 : SpotAt ((w.alloc (.cells #[.slice (some ⟨fb, fo, none⟩) N d] 30)).alloc (.cells #[.int .i64 n, .int .i64 g, .int .i64 a] 28)) (w.heap.size + 1) n g a := by
    have := heap_alloc_new (w.alloc (.cells #[.slice (some ⟨fb, fo, none⟩) N d] 30)) (.cells #[.int .i64 n, .int .i64 g, .int .i64 a] 28)
    rwa [World.size_alloc] at this
  have b4 := (Boxed.new w 30 (.slice (some ⟨fb, fo, none⟩) N d)).alloc (.cells #[.int .i64 n, .int .i64 g, .int .i64 a] 28)
  clear hc hN zb hA hI
  refine (callsIn_wide (n := 12)).1 ?_
  refine callsIn_of_wp_marks Tryz.func32 rfl trivial ?_ rfl
  simp only [Tryz.ntmps32, List.size_toArray, List.length_cons, List.length_nil, Nat.reduceAdd, Nat.reduceSub, Array.replicate_succ, Array.replicate_zero, List.push_toArray, List.append_toArray, List.nil_append, List.cons_append]
  gi_wp2_with (refine ⟨trivial, ?_⟩; gi_at_call 55; refine (callsIn_wide.2 (corner_any n g a _)).mono ?_; rintro e w1 ⟨rfl, hB⟩; rw [HX.out, HZ.out]; have HB := Lib.hid (chain ((((Below.refl w.heap.size w).alloc (Nat.le_refl _) _)).alloc (by simp) _) hB); have S1 := Lib.hid (s0.kept (grown_of_below hB none) (by simp)); have B4 := Lib.hid (b4.kept (grown_of_below hB none) (by simp)); have c0 := (bcell hB).1 w.heap.size; clear hB s0 b4)
  refine wpIn_loop (fun a' V => ∃ (k : Nat) (ms : List Nat) (u10 u11 u12 u13 u14 u35 u36 u37 u38 u39 u40 u41 u42 u43 u44 u45 u46 u47 u48 u49 u50 u51 u52 u53 u54 u55 u56 u57 u58 u59 u60 u61 u62 u63 u64 u65 u66 u67 u68 u69 u70 u71 : Value), k ≤ 6 ∧ a' = { tmps := #[.slice (some ⟨b, 0, none⟩) N c, .slice (some ⟨fb, fo, none⟩) N d, .agg #[.int .i64 n, .int .i64 g, .int .i64 a], undef, .pointer (some ⟨w.heap.size, 0, none⟩), .pointer (some ⟨w.heap.size + 1, 0, none⟩), .int .i64 0, .int .i64 (N : Int), .int .i64 0, .int .i64 ((k : Int) + 1), u10, u11, u12, u13, u14, .tuple #[.int .i64 (N : Int), .int .i64 0], .agg #[.int .i64 n, .int .i64 g, .int .i64 a], .tuple #[.int .i64 (N : Int), .int .i64 0], .int .i64 (N : Int), .int .i64 0, .bool false, .int .i64 0, .bool false, undef, .bool false, .slice (some ⟨b, 0, none⟩) N c, .int .i64 (N : Int), .int .i64 (N : Int), .bool false, .bool false, .slice (some ⟨fb, fo, none⟩) N d, .int .i64 (N : Int), .int .i64 (N : Int), .bool false, .bool false, u35, u36, u37, u38, u39, u40, u41, u42, u43, u44, u45, u46, u47, u48, u49, u50, u51, u52, u53, u54, u55, u56, u57, u58, u59, u60, u61, u62, u63, u64, u65, u66, u67, u68, u69, u70, u71], defers := ms.map mkD } ∧ CopI w b N R fb fo d n g a F f k V ∧ MarksOk w.heap.size ms V) (fun a' _ => 7 - (intOf (a'.tmps.getD 9 undef)).toNat) ?start ?round
  case start => exact ⟨0, [], undef, undef, undef, undef, undef, undef, undef, undef, undef, undef, undef, undef, undef, undef, undef, undef, undef, undef, undef, undef, undef, undef, undef, undef, undef, undef, undef, undef, undef, undef, undef, undef, undef, undef, undef, undef, undef, undef, undef, undef, undef, undef, by omega, rfl, ⟨HA.out.below HB.out hbl, HI.out.below HB.out hsl, S1.out, B4.out, grown_of_below HB.out _⟩, List.nodup_nil, fun D hD => by cases hD⟩
  case round =>
    clear HA HI HB S1 B4 c0
    rintro a' V ⟨k, ms, u10, u11, u12, u13, u14, u35, u36, u37, u38, u39, u40, u41, u42, u43, u44, u45, u46, u47, u48, u49, u50, u51, u52, u53, u54, u55, u56, u57, u58, u59, u60, u61, u62, u63, u64, u65, u66, u67, u68, u69, u70, u71, hk, rfl, ⟨h1, h2, h3, h4, h5⟩, hmk⟩
    by_cases hk6 : k < 6
    · obtain ⟨⟨⟨pa, ps⟩, pe⟩, fit⟩ := BF.out (k + 1) (by omega)
      rw [show ((k + 1 : Nat) : Int) = (k : Int) + 1 by omega] at pa ps pe
      obtain ⟨A, hAe⟩ : ∃ A, blA n g a (k + 1) = A := ⟨_, rfl⟩
      obtain ⟨S, hSe⟩ : ∃ S, blS n g a (k + 1) = S := ⟨_, rfl⟩
      rw [hAe] at pa fit
      rw [hSe] at ps fit
      have PA := Lib.hid pa
      have PS := Lib.hid ps
      have PE := Lib.hid pe
      have EN : Hid (copF n g a F f (k + 1) = layN A S (srcF A S F) (copF n g a F f k) 64) := Lib.hid (by rw [← hAe, ← hSe]; rfl)
      obtain ⟨c0, c1, c2⟩ := h3.cells
      have HA := Lib.hid h1
      have HI := Lib.hid h2
      have HS := Lib.hid h3
      have HV := Lib.hid h4
      have HG := Lib.hid h5
      have HM := Lib.hid hmk
      have sz := h5.size
      clear pa ps pe hAe hSe h1 h2 h3 h4 h5 hmk
      have kb : (k : Int) + 1 ≤ 6 := by omega
      gi_wp2_with (first
        | (refine ⟨trivial, ?_⟩; gi_at_call 56; refine (callsIn_wide.2 (Place_any n g a ((k : Int) + 1) _)).mono ?_; rintro e w2 ⟨rfl, hB⟩; rw [PA.out, PS.out, PE.out]; have HA := Lib.hid (HA.out.below hB (by omega)); have HI := Lib.hid (HI.out.below hB (by omega)); have HS := Lib.hid (HS.out.kept (grown_of_below hB none) (by simp)); have HV := Lib.hid (HV.out.kept (grown_of_below hB none) (by simp)); have HG := Lib.hid (grown_trans HG.out (grown_of_below hB _)); have HM := Lib.hid (HM.out.below hB); clear hB c0 c1 c2)
        | (refine ⟨trivial, ?_⟩; gi_at_call 57; refine (rows_in _ _ N c rfl _ _ _ _).mono ?_))
      obtain ⟨h0, hh0⟩ : ∃ h0, copF n g a F f k = h0 := ⟨_, rfl⟩
      rw [hh0] at HA EN
      clear hh0
      obtain ⟨Wa, hWa⟩ : ∃ Wa, (w2.alloc (.cells #[.int .i64 (A : Int)] 3)).alloc (.cells #[.int .i64 (S : Int)] 3) = Wa := ⟨_, rfl⟩
      have ba : Below w2.heap.size w2 Wa := by rw [← hWa]; exact ((Below.refl _ _).alloc (Nat.le_refl _) _).alloc (by simp) _
      have x1 : Boxed Wa w2.heap.size 3 (.int .i64 (A : Int)) := by rw [← hWa]; exact (Boxed.new w2 _ _).alloc _
      have x2 : Boxed Wa (w2.heap.size + 1) 3 (.int .i64 (S : Int)) := by
        rw [← hWa]
        have := Boxed.new (w2.alloc (.cells #[.int .i64 (A : Int)] 3)) 3 (.int .i64 (S : Int))
        rwa [World.size_alloc] at this
      rw [hWa]
      clear hWa
      have d1 := ((Boxed.new Wa 30 (.slice (some ⟨b, 0, none⟩) N c)).alloc (.cells #[.int .i64 (A : Int)] 3)).alloc (.cells #[.int .i64 (S : Int)] 3)
      have d2 := (Boxed.new (Wa.alloc (.cells #[.slice (some ⟨b, 0, none⟩) N c] 30)) 3 (.int .i64 (A : Int))).alloc (.cells #[.int .i64 (S : Int)] 3)
      have d3 := Boxed.new ((Wa.alloc (.cells #[.slice (some ⟨b, 0, none⟩) N c] 30)).alloc (.cells #[.int .i64 (A : Int)] 3)) 3 (.int .i64 (S : Int))
      simp only [World.size_alloc] at d2 d3
      have b3 : Below Wa.heap.size Wa (((Wa.alloc (.cells #[.slice (some ⟨b, 0, none⟩) N c] 30)).alloc (.cells #[.int .i64 (A : Int)] 3)).alloc (.cells #[.int .i64 (S : Int)] 3)) := (((Below.refl Wa.heap.size Wa).alloc (Nat.le_refl _) _).alloc (by simp) _).alloc (by simp; omega) _
      rintro e W1 ⟨rfl, hW1⟩
      rw [← hW1] at d1 d2 d3 b3
      have x1 := x1.kept (grown_of_below b3 none) (by simp)
      have x2 := x2.kept (grown_of_below b3 none) (by simp)
      have BW := chain ba b3
      have bl2 : b < w2.heap.size := HA.out.lt (by omega)
      have fl2 : fb < w2.heap.size := HI.out.lt (by omega)
      have hA3 := HA.out.below BW bl2
      have hI3 := HI.out.below BW fl2
      have hS3 := HS.out.kept (grown_of_below BW none) (by simp)
      have hV3 := HV.out.kept (grown_of_below BW none) (by simp)
      have hG3 := grown_trans HG.out (grown_of_below BW _)
      have hM3 := HM.out.below BW
      have hml : ∀ D ∈ ms, D < w2.heap.size := fun D hD => (Array.getElem?_eq_some_iff.1 (HM.out.2 D hD).2).1
      have sw0 := HG.out.size
      have sw2 := ba.size
      have sw3 := b3.size
      clear hW1 HA HI HS HV HG HM b3 ba
      gi_wp2
      refine rangeN (gf := 101) (lb := #[.pointer (some ⟨Wa.heap.size, 0, none⟩), .pointer (some ⟨Wa.heap.size + 1, 0, none⟩), .pointer (some ⟨Wa.heap.size + 2, 0, none⟩)]) rfl (enters_of Tryz.func101 (by kernel_rfl) rfl)
        (rows_seq b N c A S fit.1 hNc fit.2.1 fit.2.2 11 (by decide) Wa.heap.size _ _ _ (Nat.le_refl _) (by omega) (by omega) W1 d1 d2 d3) kpA_t kpA_l (fun _ => rfl)
        (fun pre V => (Arr V .u8 b R (layR A S (srcF A S F) h0 pre) ∧ Ints V .u8 fb fo N F ∧ SpotAt V (w.heap.size + 1) n g a ∧ Boxed V w.heap.size 30 (.slice (some ⟨fb, fo, none⟩) N d) ∧ w.grownBy V (some b)) ∧ Boxed V w2.heap.size 3 (.int .i64 (A : Int)) ∧ Boxed V (w2.heap.size + 1) 3 (.int .i64 (S : Int)) ∧ MarksOk w.heap.size ms V)
        (fun c pre V => False)
        (OwnFrom.and (OwnFrom.and (own_arr (by omega) (layR A S (srcF A S F) h0)) (OwnFrom.and (own_ints (by omega) F) (OwnFrom.and (own_spot _ _ _ _) (OwnFrom.and (Own.from (boxed_own _ _ (fun _ => _)) _) (own_grown (some b) (by omega)))))) (OwnFrom.and (Own.from (boxed_own _ _ (fun _ => _)) _) (OwnFrom.and (Own.from (boxed_own _ _ (fun _ => _)) _) (own_marks (fun D hD => by have := hml D hD; omega)))))
        (fun c => fun s A C row h hg hr => h.elim)
        ⟨⟨hA3, hI3, hS3, hV3, hG3⟩, x1, x2, hM3⟩
        (fun x a' V => a' = { tmps := #[.slice (some ⟨b, 0, none⟩) N c, .slice (some ⟨fb, fo, none⟩) N d, .agg #[.int .i64 n, .int .i64 g, .int .i64 a], undef, .pointer (some ⟨w.heap.size, 0, none⟩), .pointer (some ⟨w.heap.size + 1, 0, none⟩), .int .i64 0, .int .i64 (N : Int), .int .i64 0, .int .i64 ((k : Int) + 1), .pointer (some ⟨w2.heap.size, 0, none⟩), .pointer (some ⟨w2.heap.size + 1, 0, none⟩), .int .i64 0, .int .i64 (x.val : Int), .slice (some ⟨b, A + x.val * S, none⟩) 8 (c - (A + x.val * S)), .tuple #[.int .i64 (N : Int), .int .i64 0], .agg #[.int .i64 n, .int .i64 g, .int .i64 a], .tuple #[.int .i64 (N : Int), .int .i64 0], .int .i64 (N : Int), .int .i64 0, .bool false, .int .i64 0, .bool false, undef, .bool false, .slice (some ⟨b, 0, none⟩) N c, .int .i64 (N : Int), .int .i64 (N : Int), .bool false, .bool false, .slice (some ⟨fb, fo, none⟩) N d, .int .i64 (N : Int), .int .i64 (N : Int), .bool false, .bool false, .int .i64 ((k : Int) + 1), .bool true, u37, u38, .tuple #[.int .i64 (A : Int), .int .i64 (S : Int), .int .i64 0], .pointer (some ⟨w.heap.size + 1, 0, none⟩), .int .i64 n, .pointer (some ⟨w.heap.size + 1, 1, none⟩), .int .i64 g, .pointer (some ⟨w.heap.size + 1, 2, none⟩), .int .i64 a, .int .i64 ((k : Int) + 1), .tuple #[.int .i64 (A : Int), .int .i64 (S : Int), .int .i64 0], .int .i64 (A : Int), .int .i64 (S : Int), .int .i64 0, .slice (some ⟨b, 0, none⟩) N c, .int .i64 (A : Int), .int .i64 (S : Int), .func (.func 101) #[] #[.pointer (some ⟨Wa.heap.size, 0, none⟩), .pointer (some ⟨Wa.heap.size + 1, 0, none⟩), .pointer (some ⟨Wa.heap.size + 2, 0, none⟩)], .int .i64 (x.val : Int), .slice (some ⟨b, A + x.val * S, none⟩) 8 (c - (A + x.val * S)), u57, u58, u59, u60, u61, u62, u63, u64, u65, u66, u67, u68, u69, u70, u71], defers := [] })
        (fun x a' => fun s A C row h hg hr => h)
        ?assign ?body ?done ?stop
      case assign =>
        rintro l pre x V K sV hl h1 hK
        dsimp only [encR]
        gi_wp2
        exact hK _ _ (KeepsFrom.refl _ _) (kpA_refl V) h1 rfl
      case body =>
        rintro l pre x a' V hl ⟨r, hr⟩ ⟨⟨h1, h2, h3, h4, h5⟩, h6, h7, h8⟩ rfl hlt
        have xb := x.isLt
        obtain ⟨y, hy⟩ : ∃ y : Nat, x.val = y := ⟨_, rfl⟩
        obtain ⟨q, hq⟩ : ∃ q : Nat, y * S = q := ⟨_, rfl⟩
        obtain ⟨o, ho⟩ : ∃ o : Nat, A + q = o := ⟨_, rfl⟩
        have hyS : y * S ≤ 7 * S := Nat.mul_le_mul_right S (by omega)
        rw [hq] at hyS
        have ob : o + 8 ≤ N := by omega
        have c4 := h4.cell
        have c6 := h6.cell
        have c7 := h7.cell
        have hqI : (y : Int) * (S : Int) = (q : Int) := by rw [← hq]; push_cast; rfl
        have sl := fun W => slice_row fb fo N d o ob hNd W
        have src : ∀ j, j < 8 → V.cell? ((⟨fb, fo + o, none⟩ : Addr).add j) = some (.int .u8 (F (o + j))) := fun j hj => by
          have := h2 (o + j) (by omega)
          rw [← Nat.add_assoc] at this
          rw [Addr.add_lit]
          exact this
        have SRC := Lib.hid src
        have HA := Lib.hid h1
        have HI := Lib.hid h2
        have HS := Lib.hid h3
        have HV := Lib.hid h4
        have HG := Lib.hid h5
        have H6 := Lib.hid h6
        have H7 := Lib.hid h7
        have H8 := Lib.hid h8
        have LR : Hid (layR A S (srcF A S F) h0 (pre ++ [x]) = fun i => if o ≤ i ∧ i < o + 8 then F (o + (i - o)) else layR A S (srcF A S F) h0 pre i) := Lib.hid (by
          rw [layR_snoc]
          funext i
          unfold putRow
          rw [hy, hq, ho]
          by_cases hr : o ≤ i ∧ i < o + 8
          · rw [if_pos hr, if_pos hr]
            unfold srcF
            rw [show (8 * y + (i - o)) / 8 = y by omega, show (8 * y + (i - o)) % 8 = i - o by omega, hq, ho]
          · rw [if_neg hr, if_neg hr])
        rw [hy] at xb
        rw [hy, hq, ho]
        have hoI : (A : Int) + (q : Int) = (o : Int) := by omega
        have bo : (o : Int) + 8 ≤ 1000000 := by omega
        have bq : (q : Int) ≤ 3000 := by omega
        have e1 : IntKind.i64.wrap ((y : Int) * (S : Int)) = (q : Int) := by rw [hqI]; exact IntWalk.i64_in _ (by omega)
        have e2 : IntKind.i64.wrap ((A : Int) + (q : Int)) = (o : Int) := by rw [hoI]; exact IntWalk.i64_in _ (by omega)
        have e3 : IntKind.i64.wrap ((o : Int) + 8) = (o : Int) + 8 := IntWalk.i64_in _ (by omega)
        clear src h1 h2 h3 h4 h5 h6 h7 h8 hy hq ho hyS hr hqI
        gi_wp2_with (refine wpListIn_copy_arr rfl (.tmp 57) (.tmp 70) 30 30 rfl 5 Tryz.underlying30 size_byte b R o 8 _ _ (layR A S (srcF A S F) h0 pre) (fun j => F (o + j)) ⟨fb, fo + o, none⟩ rfl rfl HA.out (by omega) SRC.out ?_; intro V' hA' hG')
        have a1 : Arr V' .u8 b R (layR A S (srcF A S F) h0 (pre ++ [x])) := by rw [LR.out]; exact hA'.out
        clear e1 e2 e3
        exact ⟨KeepsFrom.of_grownBy hG'.out (fun j e => by cases e; omega), kpA_grown hG'.out (by omega), ⟨a1, HI.out.grown hG'.out (fun e => hne (Option.some.inj e)), HS.out.kept hG'.out (fun e => by have := Option.some.inj e; omega), HV.out.kept hG'.out (fun e => by have := Option.some.inj e; omega), grown_trans HG.out hG'.out⟩, H6.out.kept hG'.out (fun e => by have := Option.some.inj e; omega), H7.out.kept hG'.out (fun e => by have := Option.some.inj e; omega), ⟨H8.out.1, fun D hD => ⟨(H8.out.2 D hD).1, (hG'.out.block D (Array.getElem?_eq_some_iff.1 (H8.out.2 D hD).2).1 (fun e => by have := (H8.out.2 D hD).1; have := Option.some.inj e; omega)).trans (H8.out.2 D hD).2⟩⟩⟩
      case stop =>
        rintro Dd c pre V hD hSp h hK
        exact h.elim
      case done =>
        rintro Dd ys V hD rfl ⟨⟨h1, h2, h3, h4, h5⟩, _, _, h8⟩ hK
        have hA' : Arr V .u8 b R (copF n g a F f (k + 1)) := by rw [EN.out, ← layR_all]; exact h1
        have hM' : MarksOk w.heap.size (Dd :: ms) V := ⟨List.nodup_cons.2 ⟨fun e => by have := hml Dd e; omega, h8.1⟩, fun D hD => by
          rcases List.mem_cons.1 hD with rfl | h
          · exact ⟨by omega, hK⟩
          · exact h8.2 D h⟩
        have AL := Lib.hid (show CopI w b N R fb fo d n g a F f (k + 1) V ∧ MarksOk w.heap.size (Dd :: ms) V from ⟨⟨hA', h2, h3, h4, h5⟩, hM'⟩)
        clear h1 h2 h3 h4 h5 h8 hK hA' hM'
        gi_wp2
        refine ⟨⟨k + 1, Dd :: ms, _, _, _, _, _, _, _, _, _, _, _, _, _, _, _, _, _, _, _, _, _, _, _, _, _, _, _, _, _, _, _, _, _, _, _, _, _, _, _, _, _, _, by omega, rfl, AL.out⟩, ?_⟩
        simp [intOf]
        omega
    · have hA6 : Arr V .u8 b R (copF n g a F f 6) := by
        obtain rfl : k = 6 := by omega
        exact h1
      have hk' : 6 ≤ k := by omega
      have AL := Lib.hid (And.intro hA6 h5)
      have HM := Lib.hid hmk
      clear h1 h2 h3 h4 h5 hmk hA6
      gi_wp2
      refine leaves_marks (Inv := fun V => Arr V .u8 b R (copF n g a F f 6) ∧ w.grownBy V (some b)) (B := w.heap.size) (fun V D h hB hD => ?_) (fun V' h => ?_) ms V HM.out AL.out
      · have gp := grownBy_putObj' V D (.deferred none)
        exact ⟨h.1.grown gp (fun e => by have := Option.some.inj e; omega), own_grown (β := Unit) (some b) (Nat.le_refl w.heap.size) () V _ (some D) h.2 gp (fun r e => by cases e; exact ⟨hB, _, hD, rfl⟩)⟩
      · exact ⟨_, results_tmp rfl _ _ _, rfl, h.1, h.2⟩
end Pa
end Go.Proofs.YtbmglemjfodfhaaGreat
