/- frame: the iterators over a macroblock's blocks: luma. -/
import Derived.Shelf.Abstract
import Derived.WalkKit
import Derived.OwnWalkIn
import Derived.TacticsInMore
import Derived.LoopNIn
import Derived.LoopIn
import Derived.Test.YtkeempljogjceaaNest
import Derived.Test.YtkeempljogjceaaFr3
namespace Go.Proofs.Ytkeempljogjceaa
open Go.RowKit Go.Shelf
attribute [local go_sem] Oper.semAt_some
namespace Pt
open Fr

theorem frAt_any (F S x y r q : Int) (w : World) (hq : y * S = q) (hr : F + q + x = r) (b1 : -1000000 ≤ F ∧ F ≤ 1000000) (b2 : -1000000 ≤ q ∧ q ≤ 1000000) (b3 : -1000000 ≤ x ∧ x ≤ 1000000) :
    Calls Try.prog 69 #[.agg #[.int .i64 F, .int .i64 S], .int .i64 x, .int .i64 y] w fun e w' => e = .returned (.int .i64 r) ∧ Below w.heap.size w w' := by
  have e1 : IntKind.i64.wrap (y * S) = q := by rw [hq]; exact IntWalk.i64_in _ (by omega)
  have e2 : IntKind.i64.wrap (F + q) = F + q := IntWalk.i64_in _ (by omega)
  have e3 : IntKind.i64.wrap (F + q + x) = r := by rw [hr]; exact IntWalk.i64_in _ (by omega)
  clear hq hr
  go_enter Try.func69, Try.ntmps69
  go_wp2
  go_ret
  exact ⟨rfl, (Below.refl _ _).alloc (Nat.le_refl _) _⟩
abbrev Part := Int × Int × Int
def enc (p : Part) : Array Value := #[.agg #[.int .i64 p.1, .int .i64 p.2.1, .int .i64 p.2.2]]
def lumaP (n X Y : Int) (k : Nat) : Part := ((k : Int) + 1, (Y + (k : Int) / 2 * 8) * wV n + (X + (k : Int) % 2 * 8), wV n)
def lumaL (n X Y : Int) (k : Nat) : List Part := (List.range k).map (lumaP n X Y)
theorem lumaL_succ (n X Y : Int) (k : Nat) : lumaL n X Y (k + 1) = lumaL n X Y k ++ [lumaP n X Y k] := by unfold lumaL; rw [List.range_succ, List.map_append]; rfl
theorem lumaL_len (n X Y : Int) (k : Nat) : (lumaL n X Y k).length = k := by unfold lumaL; simp
theorem lumaL_pre (n X Y : Int) (k m : Nat) (h : k ≤ m) : lumaL n X Y k <+: lumaL n X Y m := by
  obtain ⟨d, rfl⟩ := Nat.exists_eq_add_of_le h
  induction d with
  | zero => exact List.prefix_rfl
  | succ d ih => rw [← Nat.add_assoc, lumaL_succ]; exact (ih (by omega)).trans (List.prefix_append _ _)
/-- cells from B on lie as they lay. -/
def KpC (B : Nat) (W W' : World) : Prop := ∀ i, B ≤ i → ∀ o : Obj, W.heap[i]? = some o → o.isCells = true → W'.heap[i]? = some o
theorem kpC_t {B : Nat} {X Y Z : World} (h : KpC B X Y) (k : KpC B Y Z) : KpC B X Z := fun i hi o ho hc => k i hi o (h i hi o ho hc) hc
theorem kpC_b {B : Nat} (W : World) (l : Nat) (o o' : Obj) (h : W.heap[l]? = some o) (hc : o.isCells = false) : KpC B W (W.putObj l o') := fun i _ o2 h2 hc2 => by
  by_cases e : i = l
  · subst e; rw [h] at h2; cases h2; rw [hc] at hc2; cases hc2
  · exact (World.putObj_heap_other (by omega)).trans h2
theorem kpC_box {W W' : World} {B b : Nat} {t : TypeId} {v : Value} (h : Boxed W b t v) (hk : KpC B W W') (hb : B ≤ b) : Boxed W' b t v := hk b hb _ h rfl

theorem luma_in (n X Y : Int) (m : Nat) (w : World) :
    CallsIn Fence.wide m Try.prog 68 #[.int .i64 n, .int .i64 X, .int .i64 Y] w fun e w' => e = .returned (.func (.func 75) #[] #[.pointer (some ⟨w.heap.size, 0, none⟩), .pointer (some ⟨w.heap.size + 1, 0, none⟩), .pointer (some ⟨w.heap.size + 2, 0, none⟩)])
      ∧ w' = ((w.alloc (.cells #[.int .i64 n] 82)).alloc (.cells #[.int .i64 X] 3)).alloc (.cells #[.int .i64 Y] 3) := by
  refine callsIn_wide.2 ?_
  go_enter Try.func68, Try.ntmps68
  go_wp2
  go_ret
  exact ⟨rfl, rfl⟩
set_option maxRecDepth 100000 in
set_option maxHeartbeats 2000000 in
theorem luma1_in (n X Y : Int) (m : Nat) (hm : 1 ≤ m) (hn : n = 0 ∨ n = 1) (hX : 0 ≤ X ∧ X ≤ 400) (hY0 : 0 ≤ Y ∧ Y ≤ 400) (l B Bf Bx By : Nat) (bf : B ≤ Bf) (bx : B ≤ Bx) (bY : B ≤ By) (J Jx : List Part → World → Prop) (W : World) (hBW : B ≤ W.heap.size) (hJ : AbidesFrom W.heap.size J)
    (hY : ∀ pre x W1, J pre W1 → pre.length < 4 → YieldAt Fence.wide (m - 1) Try.prog l (enc x) W1 fun e W' =>
      (e = .returned (.bool true) ∧ J (pre ++ [x]) W' ∧ KpC B W1 W') ∨ (e = .returned (.bool false) ∧ Jx (pre ++ [x]) W'))
    (h0 : J [] W) (h1 : Boxed W Bf 82 (.int .i64 n)) (h2 : Boxed W Bx 3 (.int .i64 X)) (h3 : Boxed W By 3 (.int .i64 Y)) :
    CallsIn Fence.wide m Try.prog 75 #[.func (.yield l) #[] #[], .pointer (some ⟨Bf, 0, none⟩), .pointer (some ⟨Bx, 0, none⟩), .pointer (some ⟨By, 0, none⟩)] W fun e W' => (∃ v, e = .returned v) ∧
      ((∃ ys, ys = lumaL n X Y 4 ∧ J ys W') ∨ (∃ pre, pre <+: lumaL n X Y 4 ∧ Jx pre W')) := by
  have c1 := h1.cell
  have H1 := Lib.hid h1
  have H2 := Lib.hid h2
  have H3 := Lib.hid h3
  have H0 := Lib.hid h0
  obtain ⟨Wd, hWd⟩ : ∃ Wd, wV n = Wd := ⟨_, rfl⟩
  have bW : 0 ≤ Wd ∧ Wd ≤ 352 := by rw [← hWd]; rcases hn with rfl | rfl <;> decide
  have HW := Lib.hid hWd
  clear h1 h2 h3 h0 hWd hn
  refine callsIn_of_wp Try.func75 rfl trivial ?_ rfl
  simp only [Try.ntmps75, List.size_toArray, List.length_cons, List.length_nil, Nat.reduceAdd, Nat.reduceSub, Array.replicate_succ, Array.replicate_zero, List.push_toArray, List.append_toArray, List.nil_append, List.cons_append]
  gi_wp2_with (refine ⟨trivial, ?_⟩; gi_at_call 61; refine (callsIn_wide.2 (wide_any n _)).mono ?_; rintro e w' ⟨rfl, rfl⟩; rw [HW.out])
  gi_loopw [10] (fun i wr => ∃ k : Nat, k ≤ 4 ∧ i = .int .i64 k ∧ J (lumaL n X Y k) wr ∧ Boxed wr Bf 82 (.int .i64 n) ∧ Boxed wr Bx 3 (.int .i64 X) ∧ Boxed wr By 3 (.int .i64 Y) ∧ wr.heap[W.heap.size]? = some (.cells #[.int .i64 0, .int .i64 Wd] 98 (0, 0)) ∧ W.heap.size ≤ wr.heap.size)
    (fun i _ => 4 - (intOf i).toNat)
  case atStart => exact ⟨0, by omega, rfl, hJ _ _ _ none H0.out (World.grownBy_alloc W _ none) (fun _ e => by cases e), H1.out.alloc _, H2.out.alloc _, H3.out.alloc _, heap_alloc_new W _, by simp⟩
  case round =>
    obtain ⟨k, hk, rfl, hJk, b1, b2, b3, b4, b5⟩ := hrel
    have HJ := Lib.hid hJk
    have B1 := Lib.hid b1
    have B2 := Lib.hid b2
    have B3 := Lib.hid b3
    have B4 := Lib.hid b4
    clear hJk b1 b2 b3 b4 H0 H1 H2 H3 c1
    by_cases hk4 : k < 4
    · have p2 := Past.cell B2.out.cell
      have p3 := Past.cell B3.out.cell
      have q1 : wr.cell? ⟨W.heap.size, 0, none⟩ = some (.int .i64 0) := by simp [World.cell?, B4.out]
      have q2 : wr.cell? ⟨W.heap.size, 1, none⟩ = some (.int .i64 Wd) := by simp [World.cell?, B4.out]
      have p4 := Past.cell q1
      have p5 := Past.cell q2
      clear q1 q2
      obtain ⟨yk, hyk⟩ : ∃ yk : Int, yk = Y + (k : Int) / 2 * 8 := ⟨_, rfl⟩
      obtain ⟨xk, hxk⟩ : ∃ xk : Int, xk = X + (k : Int) % 2 * 8 := ⟨_, rfl⟩
      obtain ⟨Q, hQ⟩ : ∃ Q, yk * Wd = Q := ⟨_, rfl⟩
      have bQ : 0 ≤ Q ∧ Q ≤ 408 * 352 := by
        rw [← hQ]
        exact ⟨Int.mul_nonneg (by omega) bW.1, Int.mul_le_mul (by omega) bW.2 bW.1 (by omega)⟩
      have AT : ∀ x : Past wr, Calls Try.prog 69 #[.agg #[.int .i64 0, .int .i64 Wd], .int .i64 xk, .int .i64 yk] x.now fun e w' => e = .returned (.int .i64 (Q + xk)) ∧ Below x.now.heap.size x.now w' := fun x =>
        frAt_any 0 Wd xk yk (Q + xk) Q x.now hQ (by omega) (by omega) (by omega) (by omega)
      have PK : Hid (lumaP n X Y k = ((k : Int) + 1, Q + xk, Wd)) := Lib.hid (by unfold lumaP; rw [HW.out, ← hyk, ← hxk, hQ])
      have e1 : IntKind.i64.wrap (X + (k : Int) % 2 * 8) = xk := by rw [← hxk]; exact IntWalk.i64_in _ (by omega)
      have e2 : IntKind.i64.wrap (Y + (k : Int) / 2 * 8) = yk := by rw [← hyk]; exact IntWalk.i64_in _ (by omega)
      have bxk : 0 ≤ xk ∧ xk ≤ 500 := by omega
      clear hxk hyk hQ
      gi_wp2
      refine regionIn_head 18 (by kernel_rfl) (by kernel_rfl) ?_
      simp only [List.take_succ_cons, List.take_zero, List.drop_succ_cons, List.drop_zero]
      repeat (go_big_quiet_step ((go_at_call 69; exact past_call (AT _))))
      refine wpQuiet_nil ?_
      rintro w5 ⟨⟨_, h5⟩, rfl⟩
      have J5 := hJ _ _ _ none HJ.out (grown_of_below h5 none) (fun _ e => by cases e)
      have hy0 := hY (lumaL n X Y k) (lumaP n X Y k) w5 J5 (by rw [lumaL_len]; exact hk4)
      rw [PK.out] at hy0
      obtain ⟨fn, tmps, assign, body, hy, _, hR⟩ := yield_wide (r := 0) (m' := m - 1) hy0
      dsimp only [enc] at hy
      have D1 := Lib.hid (B1.out.kept (grown_of_below h5 none) (by simp))
      have D2 := Lib.hid (B2.out.kept (grown_of_below h5 none) (by simp))
      have D3 := Lib.hid (B3.out.kept (grown_of_below h5 none) (by simp))
      have D4 := Lib.hid ((h5.block _ (Array.getElem?_eq_some_iff.1 B4.out).1).trans B4.out)
      clear AT p2 p3 p4 p5 hy0 J5 e1 e2
      gi_wp2
      refine hR.mono ?_
      rintro e W3 (⟨rfl, hJ3, hK3⟩ | ⟨rfl, hJx3⟩)
      · have D4' := hK3 _ hBW _ D4.out rfl
        gi_wp2
        go_roundw
        case rel => exact ⟨k + 1, by omega, by go_num, by rw [lumaL_succ, PK.out]; exact hJ3, kpC_box D1.out hK3 bf, kpC_box D2.out hK3 bx, kpC_box D3.out hK3 bY, D4', Nat.le_of_lt (Array.getElem?_eq_some_iff.1 D4').1⟩
        case measure => simp [intOf]; omega
      · gi_wp2
        refine bodyPost_ret (results_none rfl _ _ _) rfl ?_
        exact ⟨⟨_, rfl⟩, .inr ⟨lumaL n X Y (k + 1), lumaL_pre n X Y (k + 1) 4 (by omega), by rw [lumaL_succ, PK.out]; exact hJx3⟩⟩
    · have hJ4 : J (lumaL n X Y 4) wr := by
        obtain rfl : k = 4 := by omega
        exact HJ.out
      have hk' : 4 ≤ k := by omega
      gi_wp2
      go_end0
      exact ⟨⟨_, rfl⟩, .inl ⟨_, rfl, hJ4⟩⟩
theorem luma_stops (n X Y : Int) (m : Nat) (hm : 1 ≤ m) (hn : n = 0 ∨ n = 1) (hX : 0 ≤ X ∧ X ≤ 400) (hY0 : 0 ≤ Y ∧ Y ≤ 400) (B Bf Bx By : Nat) (bf : B ≤ Bf) (bx : B ≤ Bx) (bY : B ≤ By) (w : World) (h1 : Boxed w Bf 82 (.int .i64 n)) (h2 : Boxed w Bx 3 (.int .i64 X)) (h3 : Boxed w By 3 (.int .i64 Y)) :
    SeqStopsK Fence.wide m Try.prog 75 #[.pointer (some ⟨Bf, 0, none⟩), .pointer (some ⟨Bx, 0, none⟩), .pointer (some ⟨By, 0, none⟩)] enc (KpC B) (fun ys => ys = lumaL n X Y 4) (fun pre => pre <+: lumaL n X Y 4) 4 w := fun l J Jx W hW hJ _ hY h0 =>
  luma1_in n X Y m hm hn hX hY0 l B Bf Bx By bf bx bY J Jx W (Nat.le_trans bf (Nat.le_trans (Nat.le_of_lt h1.lt) hW.size)) hJ hY h0 (h1.kept (grown_of_below hW none) (by simp)) (h2.kept (grown_of_below hW none) (by simp)) (h3.kept (grown_of_below hW none) (by simp))
end Pt
end Go.Proofs.Ytkeempljogjceaa
