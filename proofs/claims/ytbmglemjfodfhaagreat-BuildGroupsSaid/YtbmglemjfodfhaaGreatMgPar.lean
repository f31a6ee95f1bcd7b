/- frame: the iterators over a macroblock's blocks: luma. | frame: the iterator over all blocks of a macroblock. -/
import Derived.Test.YtbmglemjfodfhaaGreatMgFr3
import Derived.Test.YtbmglemjfodfhaaGreatMgNestB
import Derived.LoopIn
import Derived.LoopNIn
import Derived.OwnWalkIn
import Derived.Shelf.Abstract
import Derived.TacticsInMore
import Derived.WalkKit
set_option linter.unusedVariables false
set_option linter.unusedSimpArgs false
namespace Go.Proofs.YtbmglemjfodfhaaGreat
open Go.RowKit Go.Shelf
attribute [local go_sem] Oper.semAt_some
namespace Pt
open Fr
theorem frAt_any (F S x y r q : Int) (w : World) (hq : y * S = q) (hr : F + q + x = r) (b1 : -1000000 ≤ F ∧ F ≤ 1000000) (b2 : -1000000 ≤ q ∧ q ≤ 1000000) (b3 : -1000000 ≤ x ∧ x ≤ 1000000) :
    Calls Tryz.prog 143 #[.agg #[.int .i64 F, .int .i64 S], .int .i64 x, .int .i64 y] w fun e w' => e = .returned (.int .i64 r) ∧ Below w.heap.size w w' := by
  have e1 : IntKind.i64.wrap (y * S) = q := by rw [hq]; exact IntWalk.i64_in _ (by omega)
  have e2 : IntKind.i64.wrap (F + q) = F + q := IntWalk.i64_in _ (by omega)
  have e3 : IntKind.i64.wrap (F + q + x) = r := by rw [hr]; exact IntWalk.i64_in _ (by omega)
  clear hq hr
  go_enter Tryz.func143, Tryz.ntmps143
  go_wp2
  go_ret
  exact ⟨rfl, (Below.refl _ _).alloc (Nat.le_refl _) _⟩
abbrev Part := Int × Int × Int
def enc (p : Part) : Array Value := #[.agg #[.int .i64 p.1, .int .i64 p.2.1, .int .i64 p.2.2]]
def lumaP (n X Y : Int) (k : Nat) : Part := ((k : Int) + 1, (Y + (k : Int) / 2 * 8) * wV n + (X + (k : Int) % 2 * 8), wV n)
def lumaL (n X Y : Int) (k : Nat) : List Part := (List.range k).map (lumaP n X Y)
theorem lumaL_succ (n X Y : Int) (k : Nat) : lumaL n X Y (k + 1) = lumaL n X Y k ++ [lumaP n X Y k] := by unfold lumaL; rw [List.range_succ, List.map_append]; rfl
theorem lumaL_len (n X Y : Int) (k : Nat) : (lumaL n X Y k).length = k := by unfold lumaL; simp
theorem lumaL_pre (n X Y : Int) (k m : Nat) (h : k ≤ m) : lumaL n X Y k <+: lumaL n X Y m := by
  obtain ⟨d, rfl⟩ := Nat.exists_eq_add_of_le h
  induction d with
  | zero => exact List.prefix_rfl
  | succ d ih => rw [← Nat.add_assoc, lumaL_succ]; exact (ih (by omega)).trans (List.prefix_append _ _)
def KpC (B : Nat) (W W' : World) : Prop := ∀ i, B ≤ i → ∀ o : Obj, W.heap[i]? = some o → o.isCells = true → W'.heap[i]? = some o
theorem kpC_t {B : Nat} {X Y Z : World} (h : KpC B X Y) (k : KpC B Y Z) : KpC B X Z := fun i hi o ho hc => k i hi o (h i hi o ho hc) hc
theorem kpC_b {B : Nat} (W : World) (l : Nat) (o o' : Obj) (h : W.heap[l]? = some o) (hc : o.isCells = false) : KpC B W (W.putObj l o') := fun i _ o2 h2 hc2 => by
  by_cases e : i = l
  · subst e; rw [h] at h2; cases h2; rw [hc] at hc2; cases hc2
  · exact (World.putObj_heap_other (by omega)).trans h2
theorem kpC_box {W W' : World} {B b : Nat} {t : TypeId} {v : Value} (h : Boxed W b t v) (hk : KpC B W W') (hb : B ≤ b) : Boxed W' b t v := hk b hb _ h rfl
theorem luma_in (n X Y : Int) (m : Nat) (w : World) :
    CallsIn Fence.wide m Tryz.prog 142 #[.int .i64 n, .int .i64 X, .int .i64 Y] w fun e w' => e = .returned (.func (.func 166) #[] #[.pointer (some ⟨w.heap.size, 0, none⟩), .pointer (some ⟨w.heap.size + 1, 0, none⟩), .pointer (some ⟨w.heap.size + 2, 0, none⟩)])
      ∧ w' = ((w.alloc (.cells #[.int .i64 n] 140)).alloc (.cells #[.int .i64 X] 3)).alloc (.cells #[.int .i64 Y] 3) := by
  refine callsIn_wide.2 ?_
  go_enter Tryz.func142, Tryz.ntmps142
  go_wp2
  go_ret
  exact ⟨rfl, rfl⟩
set_option maxRecDepth 100000 in
set_option maxHeartbeats 2000000 in
theorem luma1_in (n X Y : Int) (m : Nat) (hm : 1 ≤ m) (hn : n = 0 ∨ n = 1) (hX : 0 ≤ X ∧ X ≤ 400) (hY0 : 0 ≤ Y ∧ Y ≤ 400) (l B Bf Bx By : Nat) (bf : B ≤ Bf) (bx : B ≤ Bx) (bY : B ≤ By) (J Jx : List Part → World → Prop) (W : World) (hBW : B ≤ W.heap.size) (hJ : AbidesFrom W.heap.size J)
    (hY : ∀ pre x W1, J pre W1 → pre.length < 4 → YieldAt Fence.wide (m - 1) Tryz.prog l (enc x) W1 fun e W' =>
      (e = .returned (.bool true) ∧ J (pre ++ [x]) W' ∧ KpC B W1 W') ∨ (e = .returned (.bool false) ∧ Jx (pre ++ [x]) W'))
    (h0 : J [] W) (h1 : Boxed W Bf 140 (.int .i64 n)) (h2 : Boxed W Bx 3 (.int .i64 X)) (h3 : Boxed W By 3 (.int .i64 Y)) :
    CallsIn Fence.wide m Tryz.prog 166 #[.func (.yield l) #[] #[], .pointer (some ⟨Bf, 0, none⟩), .pointer (some ⟨Bx, 0, none⟩), .pointer (some ⟨By, 0, none⟩)] W fun e W' => (∃ v, e = .returned v) ∧
      ((∃ ys, ys = lumaL n X Y 4 ∧ J ys W') ∨ (∃ pre, pre <+: lumaL n X Y 4 ∧ Jx pre W')) := by
  have c1 := h1.cell
  have H1 := Lib.hid h1
  have H2 := Lib.hid h2
  have H3 := Lib.hid h3
  have H0 := Lib.hid h0
  obtain ⟨Wd, hWd⟩ : ∃ Wd, wV n = Wd := ⟨_, rfl⟩
  have bW : 0 ≤ Wd ∧ Wd ≤ 352 := by rw [← hWd]; rcases hn with rfl | rfl <;> decide
  have HW := Lib.hid hWd
  clear h1 h2 h3 h0 hWd hn
  refine callsIn_of_wp Tryz.func166 rfl trivial ?_ rfl
  simp only [Tryz.ntmps166, List.size_toArray, List.length_cons, List.length_nil, Nat.reduceAdd, Nat.reduceSub, Array.replicate_succ, Array.replicate_zero, List.push_toArray, List.append_toArray, List.nil_append, List.cons_append]
  gi_wp2_with (refine ⟨trivial, ?_⟩; gi_at_call 119; refine (callsIn_wide.2 (wide_any n _)).mono ?_; rintro e w' ⟨rfl, rfl⟩; rw [HW.out])
  gi_loopw [10] (fun i wr => ∃ k : Nat, k ≤ 4 ∧ i = .int .i64 k ∧ J (lumaL n X Y k) wr ∧ Boxed wr Bf 140 (.int .i64 n) ∧ Boxed wr Bx 3 (.int .i64 X) ∧ Boxed wr By 3 (.int .i64 Y) ∧ wr.heap[W.heap.size]? = some (.cells #[.int .i64 0, .int .i64 Wd] 176 (0, 0)) ∧ W.heap.size ≤ wr.heap.size)
    (fun i _ => 4 - (intOf i).toNat)
  case atStart => exact ⟨0, by omega, rfl, hJ _ _ _ none H0.out (World.grownBy_alloc W _ none) (fun _ e => by cases e), H1.out.alloc _, H2.out.alloc _, H3.out.alloc _, heap_alloc_new W _, by simp⟩
  case round =>
    obtain ⟨k, hk, rfl, hJk, b1, b2, b3, b4, b5⟩ := hrel
    have HJ := Lib.hid hJk
    have B1 := Lib.hid b1
    have B2 := Lib.hid b2
    have B3 := Lib.hid b3
    have B4 := Lib.hid b4
    clear hJk b1 b2 b3 b4 H0 H1 H2 H3 c1
    by_cases hk4 : k < 4
    · have p2 := Past.cell B2.out.cell
      have p3 := Past.cell B3.out.cell
      have q1 : wr.cell? ⟨W.heap.size, 0, none⟩ = some (.int .i64 0) := by simp [World.cell?, B4.out]
      have q2 : wr.cell? ⟨W.heap.size, 1, none⟩ = some (.int .i64 Wd) := by simp [World.cell?, B4.out]
      have p4 := Past.cell q1
      have p5 := Past.cell q2
      clear q1 q2
      obtain ⟨yk, hyk⟩ : ∃ yk : Int, yk = Y + (k : Int) / 2 * 8 := ⟨_, rfl⟩
      obtain ⟨xk, hxk⟩ : ∃ xk : Int, xk = X + (k : Int) % 2 * 8 := ⟨_, rfl⟩
      obtain ⟨Q, hQ⟩ : ∃ Q, yk * Wd = Q := ⟨_, rfl⟩
      have bQ : 0 ≤ Q ∧ Q ≤ 408 * 352 := by
        rw [← hQ]
        exact ⟨Int.mul_nonneg (by omega) bW.1, Int.mul_le_mul (by omega) bW.2 bW.1 (by omega)⟩
      have AT : ∀ x : Past wr, Calls Tryz.prog 143 #[.agg #[.int .i64 0, .int .i64 Wd], .int .i64 xk, .int .i64 yk] x.now fun e w' => e = .returned (.int .i64 (Q + xk)) ∧ Below x.now.heap.size x.now w' := fun x =>
        frAt_any 0 Wd xk yk (Q + xk) Q x.now hQ (by omega) (by omega) (by omega) (by omega)
      have PK : Hid (lumaP n X Y k = ((k : Int) + 1, Q + xk, Wd)) := Lib.hid (by unfold lumaP; rw [HW.out, ← hyk, ← hxk, hQ])
      have e1 : IntKind.i64.wrap (X + (k : Int) % 2 * 8) = xk := by rw [← hxk]; exact IntWalk.i64_in _ (by omega)
      have e2 : IntKind.i64.wrap (Y + (k : Int) / 2 * 8) = yk := by rw [← hyk]; exact IntWalk.i64_in _ (by omega)
      have bxk : 0 ≤ xk ∧ xk ≤ 500 := by omega
      clear hxk hyk hQ
      gi_wp2
      refine regionIn_head 18 (by kernel_rfl) (by kernel_rfl) ?_
      simp only [List.take_succ_cons, List.take_zero, List.drop_succ_cons, List.drop_zero]
      repeat (go_big_quiet_step ((go_at_call 143; exact past_call (AT _))))
      refine wpQuiet_nil ?_
      rintro w5 ⟨⟨_, h5⟩, rfl⟩
      have J5 := hJ _ _ _ none HJ.out (grown_of_below h5 none) (fun _ e => by cases e)
      have hy0 := hY (lumaL n X Y k) (lumaP n X Y k) w5 J5 (by rw [lumaL_len]; exact hk4)
      rw [PK.out] at hy0
      obtain ⟨fn, tmps, assign, body, hy, _, hR⟩ := yield_wide (r := 0) (m' := m - 1) hy0
      dsimp only [enc] at hy
      have D1 := Lib.hid (B1.out.kept (grown_of_below h5 none) (by simp))
      have D2 := Lib.hid (B2.out.kept (grown_of_below h5 none) (by simp))
      have D3 := Lib.hid (B3.out.kept (grown_of_below h5 none) (by simp))
      have D4 := Lib.hid ((h5.block _ (Array.getElem?_eq_some_iff.1 B4.out).1).trans B4.out)
      clear AT p2 p3 p4 p5 hy0 J5 e1 e2
      gi_wp2
      refine hR.mono ?_
      rintro e W3 (⟨rfl, hJ3, hK3⟩ | ⟨rfl, hJx3⟩)
      · have D4' := hK3 _ hBW _ D4.out rfl
        gi_wp2
        go_roundw
        case rel => exact ⟨k + 1, by omega, by go_num, by rw [lumaL_succ, PK.out]; exact hJ3, kpC_box D1.out hK3 bf, kpC_box D2.out hK3 bx, kpC_box D3.out hK3 bY, D4', Nat.le_of_lt (Array.getElem?_eq_some_iff.1 D4').1⟩
        case measure => simp [intOf]; omega
      · gi_wp2
        refine bodyPost_ret (results_none rfl _ _ _) rfl ?_
        exact ⟨⟨_, rfl⟩, .inr ⟨lumaL n X Y (k + 1), lumaL_pre n X Y (k + 1) 4 (by omega), by rw [lumaL_succ, PK.out]; exact hJx3⟩⟩
    · have hJ4 : J (lumaL n X Y 4) wr := by
        obtain rfl : k = 4 := by omega
        exact HJ.out
      have hk' : 4 ≤ k := by omega
      gi_wp2
      go_end0
      exact ⟨⟨_, rfl⟩, .inl ⟨_, rfl, hJ4⟩⟩
theorem luma_stops (n X Y : Int) (m : Nat) (hm : 1 ≤ m) (hn : n = 0 ∨ n = 1) (hX : 0 ≤ X ∧ X ≤ 400) (hY0 : 0 ≤ Y ∧ Y ≤ 400) (B Bf Bx By : Nat) (bf : B ≤ Bf) (bx : B ≤ Bx) (bY : B ≤ By) (w : World) (h1 : Boxed w Bf 140 (.int .i64 n)) (h2 : Boxed w Bx 3 (.int .i64 X)) (h3 : Boxed w By 3 (.int .i64 Y)) :
    SeqStopsK Fence.wide m Tryz.prog 166 #[.pointer (some ⟨Bf, 0, none⟩), .pointer (some ⟨Bx, 0, none⟩), .pointer (some ⟨By, 0, none⟩)] enc (KpC B) (fun ys => ys = lumaL n X Y 4) (fun pre => pre <+: lumaL n X Y 4) 4 w := fun l J Jx W hW hJ _ hY h0 =>
  luma1_in n X Y m hm hn hX hY0 l B Bf Bx By bf bx bY J Jx W (Nat.le_trans bf (Nat.le_trans (Nat.le_of_lt h1.lt) hW.size)) hJ hY h0 (h1.kept (grown_of_below hW none) (by simp)) (h2.kept (grown_of_below hW none) (by simp)) (h3.kept (grown_of_below hW none) (by simp))
end Pt
end Go.Proofs.YtbmglemjfodfhaaGreat
namespace Go.Proofs.YtbmglemjfodfhaaGreat
open Go.RowKit Go.Shelf
attribute [local go_sem] Oper.semAt_some
namespace Pt
open Fr
def chrP (n X Y : Int) (k : Nat) : Part := ((k : Int) + 5, wV n * hV n + (k : Int) * (wV n * hV n) / 4 + Y / 2 * (wV n / 2) + X / 2, wV n / 2)
def partsL (n X Y : Int) (k : Nat) : List Part := lumaL n X Y 4 ++ (List.range k).map (chrP n X Y)
theorem partsL_succ (n X Y : Int) (k : Nat) : partsL n X Y (k + 1) = partsL n X Y k ++ [chrP n X Y k] := by unfold partsL; rw [List.range_succ, List.map_append, List.append_assoc]; rfl
theorem partsL_len (n X Y : Int) (k : Nat) : (partsL n X Y k).length = 4 + k := by unfold partsL; rw [List.length_append, lumaL_len]; simp
theorem partsL_pre (n X Y : Int) (k m : Nat) (h : k ≤ m) : partsL n X Y k <+: partsL n X Y m := by
  obtain ⟨d, rfl⟩ := Nat.exists_eq_add_of_le h
  induction d with
  | zero => exact List.prefix_rfl
  | succ d ih => rw [← Nat.add_assoc, partsL_succ]; exact (ih (by omega)).trans (List.prefix_append _ _)
theorem luma_parts {n X Y : Int} {pre : List Part} (m : Nat) (h : pre <+: lumaL n X Y 4) : pre <+: partsL n X Y m := h.trans (List.prefix_append _ _)
def KpA (B l : Nat) (W W' : World) : Prop := W.heap.size ≤ W'.heap.size ∧ ∀ i, B ≤ i → i ≠ l → ∀ o : Obj, W.heap[i]? = some o → W'.heap[i]? = some o
theorem kpA_t {B l : Nat} {X Y Z : World} (h : KpA B l X Y) (k : KpA B l Y Z) : KpA B l X Z := ⟨Nat.le_trans h.1 k.1, fun i hi hl o ho => k.2 i hi hl o (h.2 i hi hl o ho)⟩
theorem kpA_l {B : Nat} (l : Nat) (W : World) (o o' : Obj) (_ : W.heap[l]? = some o) (_ : o.isCells = false) : KpA B l W (W.putObj l o') := ⟨by simp, fun i _ hl o2 h2 => (World.putObj_heap_other (by omega)).trans h2⟩
theorem kpA_box {W W' : World} {B l b : Nat} {t : TypeId} {v : Value} (h : Boxed W b t v) (hk : KpA B l W W') (hb : B ≤ b) (hl : b ≠ l) : Boxed W' b t v := hk.2 b hb hl _ h
theorem own_le {β : Type} {B B' : Nat} {I : β → World → Prop} (h : OwnFrom B I) (hb : B ≤ B') : OwnFrom B' I := fun s A C row hs hg hr => h s A C row hs hg (fun r e => ⟨Nat.le_trans hb (hr r e).1, (hr r e).2⟩)
theorem kpC_alloc {B : Nat} (V : World) (o : Obj) : KpC B V (V.alloc o) := fun i _ o2 h2 _ => (Below.heap_alloc V o i (Array.getElem?_eq_some_iff.1 h2).1).trans h2
theorem own_cells {B : Nat} (f : Nat → Act) (a' : Act) (x : Part) : OwnFrom B (fun (_ : Unit) V => ∃ q, V.heap[q]? = some (.cells #[.int .i64 x.1, .int .i64 x.2.1, .int .i64 x.2.2] 143 (0, 0)) ∧ a' = f q) := by
  rintro s A C row ⟨q, h1, h2⟩ hg hr
  refine ⟨q, ?_, h2⟩
  rw [hg.block q (Array.getElem?_eq_some_iff.1 h1).1 (fun e => by
    obtain ⟨_, o, ho, hc⟩ := hr q e.symm
    rw [h1] at ho; cases ho; cases hc)]
  exact h1
theorem cells3 {w : World} {g : Nat} {x y z : Value} {t : TypeId} (h : w.heap[g]? = some (.cells #[x, y, z] t (0, 0))) : w.cell? ⟨g, 0, none⟩ = some x ∧ w.cell? ⟨g, 1, none⟩ = some y ∧ w.cell? ⟨g, 2, none⟩ = some z := by
  simp [World.cell?, h]
theorem parts_in (n X Y : Int) (m : Nat) (w : World) :
    CallsIn Fence.wide m Tryz.prog 100 #[.int .i64 n, .int .i64 X, .int .i64 Y] w fun e w' => e = .returned (.func (.func 141) #[] #[.pointer (some ⟨w.heap.size, 0, none⟩), .pointer (some ⟨w.heap.size + 1, 0, none⟩), .pointer (some ⟨w.heap.size + 2, 0, none⟩)])
      ∧ w' = ((w.alloc (.cells #[.int .i64 n] 140)).alloc (.cells #[.int .i64 X] 3)).alloc (.cells #[.int .i64 Y] 3) := by
  refine callsIn_wide.2 ?_
  go_enter Tryz.func100, Tryz.ntmps100
  go_wp2
  go_ret
  exact ⟨rfl, rfl⟩
set_option maxRecDepth 100000 in
set_option maxHeartbeats 4000000 in
theorem parts1_0 (X Y : Int) (m : Nat) (hm : 3 ≤ m) (hX : 0 ≤ X ∧ X ≤ 400) (hY0 : 0 ≤ Y ∧ Y ≤ 400) (l B Bf Bx By : Nat) (bf : B ≤ Bf) (bx : B ≤ Bx) (bY : B ≤ By) (lf : Bf ≠ l) (lx : Bx ≠ l) (lY : By ≠ l) (J Jx : List Part → World → Prop) (W : World) (hlW : l < W.heap.size) (hJ : OwnFrom W.heap.size J) (hJx : OwnFrom W.heap.size Jx)
    (hY : ∀ pre x W1, J pre W1 → pre.length < 6 → YieldAt Fence.wide (m - 1) Tryz.prog l (enc x) W1 fun e W' =>
      (e = .returned (.bool true) ∧ J (pre ++ [x]) W' ∧ KpA B l W1 W') ∨ (e = .returned (.bool false) ∧ Jx (pre ++ [x]) W' ∧ KpA B l W1 W'))
    (h0 : J [] W) (h1 : Boxed W Bf 140 (.int .i64 0)) (h2 : Boxed W Bx 3 (.int .i64 X)) (h3 : Boxed W By 3 (.int .i64 Y)) :
    CallsIn Fence.wide m Tryz.prog 141 #[.func (.yield l) #[] #[], .pointer (some ⟨Bf, 0, none⟩), .pointer (some ⟨Bx, 0, none⟩), .pointer (some ⟨By, 0, none⟩)] W fun e W' => (∃ v, e = .returned v) ∧
      ((∃ ys, ys = partsL 0 X Y 2 ∧ J ys W') ∨ (∃ pre, pre <+: partsL 0 X Y 2 ∧ Jx pre W')) := by
  have hBW : B ≤ W.heap.size := Nat.le_trans bf (Nat.le_of_lt h1.lt)
  have c1 := (h1.alloc (.cells #[.func (.yield l) #[] #[]] 174)).cell
  have c2 := (h2.alloc (.cells #[.func (.yield l) #[] #[]] 174)).cell
  have c3 := (h3.alloc (.cells #[.func (.yield l) #[] #[]] 174)).cell
  refine callsIn_of_wp_marks Tryz.func141 rfl trivial ?_ rfl
  simp only [Tryz.ntmps141, List.size_toArray, List.length_cons, List.length_nil, Nat.reduceAdd, Nat.reduceSub, Array.replicate_succ, Array.replicate_zero, List.push_toArray, List.append_toArray, List.nil_append, List.cons_append]
  have hm1 : 1 ≤ m := by omega
  have hm2 : 1 ≤ m - 1 := by omega
  gi_wp2_with (refine ⟨trivial, ?_⟩; gi_at_call 142; refine (luma_in 0 X Y (m - 1) _).mono ?_; rintro e w' ⟨rfl, rfl⟩)
  have b4 := Boxed.new W 174 (.func (.yield l) #[] #[])
  obtain ⟨Wa, hWa⟩ : ∃ Wa, W.alloc (.cells #[.func (.yield l) #[] #[]] 174) = Wa := ⟨_, rfl⟩
  have sa : Wa.heap.size = W.heap.size + 1 := by rw [← hWa]; simp
  have a1 : Boxed Wa Bf 140 (.int .i64 0) := by rw [← hWa]; exact h1.alloc _
  have a2 : Boxed Wa Bx 3 (.int .i64 X) := by rw [← hWa]; exact h2.alloc _
  have a3 : Boxed Wa By 3 (.int .i64 Y) := by rw [← hWa]; exact h3.alloc _
  have a0 : J [] Wa := by rw [← hWa]; exact hJ.alloc _ h0
  rw [hWa] at b4 ⊢
  have d1 := ((Boxed.new Wa 140 (.int .i64 0)).alloc (.cells #[.int .i64 X] 3)).alloc (.cells #[.int .i64 Y] 3)
  have d2 := (Boxed.new (Wa.alloc (.cells #[.int .i64 0] 140)) 3 (.int .i64 X)).alloc (.cells #[.int .i64 Y] 3)
  have d3 := Boxed.new ((Wa.alloc (.cells #[.int .i64 0] 140)).alloc (.cells #[.int .i64 X] 3)) 3 (.int .i64 Y)
  simp only [World.size_alloc] at d2 d3
  have a0 := hJ.alloc (.cells #[.int .i64 Y] 3) (hJ.alloc (.cells #[.int .i64 X] 3) (hJ.alloc (.cells #[.int .i64 0] 140) a0))
  have a1 := ((a1.alloc (.cells #[.int .i64 0] 140)).alloc (.cells #[.int .i64 X] 3)).alloc (.cells #[.int .i64 Y] 3)
  have a2 := ((a2.alloc (.cells #[.int .i64 0] 140)).alloc (.cells #[.int .i64 X] 3)).alloc (.cells #[.int .i64 Y] 3)
  have a3 := ((a3.alloc (.cells #[.int .i64 0] 140)).alloc (.cells #[.int .i64 X] 3)).alloc (.cells #[.int .i64 Y] 3)
  have b4 := ((b4.alloc (.cells #[.int .i64 0] 140)).alloc (.cells #[.int .i64 X] 3)).alloc (.cells #[.int .i64 Y] 3)
  have sb : (((Wa.alloc (.cells #[.int .i64 0] 140)).alloc (.cells #[.int .i64 X] 3)).alloc (.cells #[.int .i64 Y] 3)).heap.size = W.heap.size + 4 := by simp; omega
  obtain ⟨Wb, hWb⟩ : ∃ Wb, ((Wa.alloc (.cells #[.int .i64 0] 140)).alloc (.cells #[.int .i64 X] 3)).alloc (.cells #[.int .i64 Y] 3) = Wb := ⟨_, rfl⟩
  rw [hWb] at a0 a1 a2 a3 b4 d1 d2 d3 sb ⊢
  rw [sa] at d1 d2 d3
  clear hWa hWb c1 c2 c3 h1 h2 h3 h0
  have d3' : Boxed Wb (W.heap.size + 1 + 2) 3 (.int .i64 Y) := d3
  refine wpIn_rangeFunc_ownH (F := Fence.wide) rfl (by omega) (gf := 166) (lb := #[.pointer (some ⟨W.heap.size + 1, 0, none⟩), .pointer (some ⟨W.heap.size + 1 + 1, 0, none⟩), .pointer (some ⟨W.heap.size + 1 + 2, 0, none⟩)]) rfl trivial (enters_of Tryz.func166 (by kernel_rfl) rfl)
    (luma_stops 0 X Y (m - 1) (by omega) (by decide) hX hY0 (W.heap.size + 1) _ _ _ (Nat.le_refl _) (by omega) (by omega) Wb d1 d2 d3') kpC_t (fun V l' o o' _ h hc _ => kpC_b V l' o o' h hc) (Below.refl _ _) (fun _ => rfl)
    (fun pre V => (J pre V ∧ Boxed V Bf 140 (.int .i64 0) ∧ Boxed V Bx 3 (.int .i64 X) ∧ Boxed V By 3 (.int .i64 Y)) ∧ Boxed V W.heap.size 174 (.func (.yield l) #[] #[]))
    (fun c pre V => c = .ret ∧ Jx pre V)
    (OwnFrom.and (OwnFrom.and (own_le hJ (by omega)) (OwnFrom.and (Own.from (boxed_own _ _ (fun _ => _)) _) (OwnFrom.and (Own.from (boxed_own _ _ (fun _ => _)) _) (Own.from (boxed_own _ _ (fun _ => _)) _)))) (Own.from (boxed_own _ _ (fun _ => _)) _))
    (fun c => fun s A C row ⟨h1, h2⟩ hg hr => ⟨h1, own_le hJx (by omega) s A C row h2 hg hr⟩)
    ⟨⟨a0, a1, a2, a3⟩, b4⟩
    (fun x a' V => ∃ q, V.heap[q]? = some (.cells #[.int .i64 x.1, .int .i64 x.2.1, .int .i64 x.2.2] 143 (0, 0)) ∧ a' = { tmps := #[.func (.yield l) #[] #[], .pointer (some ⟨Bf, 0, none⟩), .pointer (some ⟨Bx, 0, none⟩), .pointer (some ⟨By, 0, none⟩), .pointer (some ⟨W.heap.size, 0, none⟩), .pointer (some ⟨q, 0, none⟩), undef, undef, undef, .int .i64 0, .int .i64 X, .int .i64 Y, .func (.func 166) #[] #[.pointer (some ⟨W.heap.size + 1, 0, none⟩), .pointer (some ⟨W.heap.size + 1 + 1, 0, none⟩), .pointer (some ⟨W.heap.size + 1 + 2, 0, none⟩)], .agg #[.int .i64 x.1, .int .i64 x.2.1, .int .i64 x.2.2], undef, undef, undef, undef, undef, undef, undef, undef, undef, undef, undef, undef, undef, undef, undef, undef, undef, undef, undef, undef, undef, undef, undef, undef, undef, undef, undef, undef, undef, undef, undef, undef, undef, undef, undef, undef, undef], defers := [] })
    (fun x a' => own_cells _ _ _)
    ?assign ?body ?done ?stop
  case assign =>
    rintro l2 pre x V K ⟨⟨h1, h2, h3, h4⟩, h5⟩ hK
    dsimp only [enc]
    gi_wp2
    exact hK _ _ ((KeepsOthers.alloc _ _).from _) (kpC_alloc V _) ⟨⟨hJ.alloc _ h1, h2.alloc _, h3.alloc _, h4.alloc _⟩, h5.alloc _⟩ ⟨V.heap.size, heap_alloc_new V _, rfl⟩
  case body =>
    rintro l2 pre x a' V hl ⟨r, hr⟩ ⟨⟨hJp, h1, h2, h3⟩, h4⟩ ⟨q, hq, rfl⟩ hlt
    obtain ⟨fn, tmps, assign, body, hy, hR, _⟩ := yield_wide (r := l2) (m' := m - 1 - 1 - 1) (hY pre x V hJp (by omega))
    dsimp only [enc] at hy
    have c4 := h4.cell
    obtain ⟨q0, q1, q2⟩ := cells3 hq
    have hm3 : 1 ≤ m - 1 - 1 := by omega
    have D1 := Lib.hid h1
    have D2 := Lib.hid h2
    have D3 := Lib.hid h3
    have D4 := Lib.hid h4
    clear h1 h2 h3 h4 hJp hq hr
    gi_wp2
    refine hR.mono ?_
    rintro e V3 (⟨rfl, hJ3, hK3⟩ | ⟨rfl, hJx3, hK3⟩)
    · gi_wp2
      exact ⟨⟨hK3.1, fun k o hk h ho => hK3.2 k (by omega) (by omega) o h⟩, fun i hi o h hc => hK3.2 i (by omega) (by omega) o h, ⟨hJ3, kpA_box D1.out hK3 bf lf, kpA_box D2.out hK3 bx lx, kpA_box D3.out hK3 bY lY⟩, kpA_box D4.out hK3 (by omega) (by omega)⟩
    · gi_wp2
      exact ⟨⟨hK3.1, fun k o hk h ho => hK3.2 k (by omega) (by omega) o h⟩, rfl, hJx3⟩
  case stop =>
    rintro Dd c pre V hD hSp ⟨rfl, hJx3⟩ hK
    gi_wp2
    refine ⟨by simp, .inl ⟨_, _, rfl, run_takeDeferred hK, ?_⟩⟩
    exact ⟨_, results_none rfl _ _ _, ⟨_, rfl⟩, .inr ⟨pre, luma_parts 2 hSp, hJx.putObj _ hJx3 (by omega) hK rfl⟩⟩
  case done =>
    rintro Dd ys V hD rfl ⟨⟨hJ4, h1, h2, h3⟩, h4⟩ hK
    have p1 := Past.cell h1.cell
    have D1 := Lib.hid h1
    have D2 := Lib.hid h2
    have D3 := Lib.hid h3
    have D4 := Lib.hid h4
    have HJ4 := Lib.hid hJ4
    have HK := Lib.hid hK
    clear h1 h2 h3 h4 hJ4 hK
    gi_wp2
    refine regionIn_head 5 (by kernel_rfl) (by kernel_rfl) ?_
    simp only [List.take_succ_cons, List.take_zero, List.drop_succ_cons, List.drop_zero]
    have WI : ∀ x : Past V, Calls Tryz.prog 119 #[.int .i64 0] x.now fun e w' => e = .returned (.int .i64 176) ∧ Below x.now.heap.size x.now w' := fun x => (wide_any 0 _).mono (by rintro e w' ⟨rfl, rfl⟩; exact ⟨rfl, Below.refl _ _⟩)
    have HI : ∀ x : Past V, Calls Tryz.prog 120 #[.int .i64 0] x.now fun e w' => e = .returned (.int .i64 144) ∧ Below x.now.heap.size x.now w' := fun x => (high_any 0 _).mono (by rintro e w' ⟨rfl, rfl⟩; exact ⟨rfl, Below.refl _ _⟩)
    repeat (go_big_quiet_step (first | (go_at_call 119; exact past_call (WI _)) | (go_at_call 120; exact past_call (HI _))))
    refine wpQuiet_nil ?_
    rintro V5 ⟨⟨_, h5⟩, rfl⟩
    clear p1 WI HI
    gi_wp2
    gi_loopw [23] (fun i wr => ∃ k : Nat, k ≤ 2 ∧ i = .int .i64 k ∧ J (partsL 0 X Y k) wr ∧ Boxed wr Bf 140 (.int .i64 0) ∧ Boxed wr Bx 3 (.int .i64 X) ∧ Boxed wr By 3 (.int .i64 Y) ∧ Boxed wr W.heap.size 174 (.func (.yield l) #[] #[]) ∧ wr.heap[Dd]? = some (.deferred (some [])) ∧ W.heap.size ≤ wr.heap.size)
      (fun i _ => 2 - (intOf i).toNat)
    case atStart => exact ⟨0, by omega, rfl, by unfold partsL; rw [List.range_zero, List.map_nil, List.append_nil]; exact hJ _ _ _ none HJ4.out (grown_of_below h5 none) (fun _ e => by cases e), D1.out.kept (grown_of_below h5 none) (by simp), D2.out.kept (grown_of_below h5 none) (by simp), D3.out.kept (grown_of_below h5 none) (by simp), D4.out.kept (grown_of_below h5 none) (by simp), (h5.block _ (Array.getElem?_eq_some_iff.1 HK.out).1).trans HK.out, by have := (Array.getElem?_eq_some_iff.1 HK.out).1; have := h5.size; omega⟩
    case round =>
      obtain ⟨k, hk, rfl, hJk, b1, b2, b3, b4, b5, b6⟩ := hrel
      have HJ := Lib.hid hJk
      have B1 := Lib.hid b1
      have B2 := Lib.hid b2
      have B3 := Lib.hid b3
      have B4 := Lib.hid b4
      have B5 := Lib.hid b5
      have c1 := b1.cell
      clear hJk b1 b2 b3 b4 b5
      by_cases hk2 : k < 2
      · obtain ⟨S, hS⟩ : ∃ S : Int, S = 25344 + (k : Int) * 25344 / 4 := ⟨_, rfl⟩
        have bS : 0 ≤ S ∧ S ≤ 200000 := by omega
        obtain ⟨xk, hxk⟩ : ∃ xk : Int, xk = X / 2 := ⟨_, rfl⟩
        obtain ⟨yk, hyk⟩ : ∃ yk : Int, yk = Y / 2 := ⟨_, rfl⟩
        have bx2 : 0 ≤ xk ∧ xk ≤ 200 := by omega
        have by2 : 0 ≤ yk ∧ yk ≤ 200 := by omega
        have PK : Hid (chrP 0 X Y k = ((k : Int) + 5, S + yk * 88 + xk, 88)) := Lib.hid (by unfold chrP; rw [hxk, hyk, hS]; rfl)
        gi_wp2_with (refine ⟨trivial, ?_⟩; gi_at_call 119; refine (callsIn_wide.2 (wide_any 0 _)).mono ?_; rintro e w' ⟨rfl, rfl⟩; rw [show wV 0 = 176 from rfl])
        rw [← hS]
        obtain ⟨wa, hwa⟩ : ∃ wa, wr.alloc (.cells #[.int .i64 S, .int .i64 88] 176) = wa := ⟨_, rfl⟩
        have ha : Below wr.heap.size wr wa := by rw [← hwa]; exact (Below.refl _ _).alloc (Nat.le_refl _) _
        have ga : wa.heap[wr.heap.size]? = some (.cells #[.int .i64 S, .int .i64 88] 176 (0, 0)) := by rw [← hwa]; exact heap_alloc_new wr _
        rw [hwa]
        have A1 := Lib.hid (B1.out.kept (grown_of_below ha none) (by simp))
        have A2 := Lib.hid (B2.out.kept (grown_of_below ha none) (by simp))
        have A3 := Lib.hid (B3.out.kept (grown_of_below ha none) (by simp))
        have A4 := Lib.hid (B4.out.kept (grown_of_below ha none) (by simp))
        have A5 := Lib.hid ((ha.block _ (Array.getElem?_eq_some_iff.1 B5.out).1).trans B5.out)
        have AJ := Lib.hid (hJ _ _ _ none HJ.out (grown_of_below ha none) (fun _ e => by cases e))
        have sa : wr.heap.size ≤ wa.heap.size := ha.size
        clear hwa c1
        have p2 := Past.cell A2.out.cell
        have p3 := Past.cell A3.out.cell
        have p4 := Past.cell A4.out.cell
        have q1 : wa.cell? ⟨wr.heap.size, 0, none⟩ = some (.int .i64 S) := by simp [World.cell?, ga]
        have q2 : wa.cell? ⟨wr.heap.size, 1, none⟩ = some (.int .i64 88) := by simp [World.cell?, ga]
        have p5 := Past.cell q1
        have p6 := Past.cell q2
        clear q1 q2 ga
        have AT : ∀ x : Past wa, Calls Tryz.prog 143 #[.agg #[.int .i64 S, .int .i64 88], .int .i64 (X / 2), .int .i64 (Y / 2)] x.now fun e w' => e = .returned (.int .i64 (S + yk * 88 + xk)) ∧ Below x.now.heap.size x.now w' := fun x => by
          rw [← hxk, ← hyk]
          exact frAt_any S 88 xk yk (S + yk * 88 + xk) (yk * 88) x.now rfl rfl (by omega) (by omega) (by omega)
        clear hS hxk hyk
        refine regionIn_head 12 (by kernel_rfl) (by kernel_rfl) ?_
        simp only [List.take_succ_cons, List.take_zero, List.drop_succ_cons, List.drop_zero]
        repeat (go_big_quiet_step ((go_at_call 143; exact past_call (AT _))))
        refine wpQuiet_nil ?_
        rintro w5 ⟨⟨_, g5⟩, rfl⟩
        have J5 := hJ _ _ _ none AJ.out (grown_of_below g5 none) (fun _ e => by cases e)
        have hy0 := hY (partsL 0 X Y k) (chrP 0 X Y k) w5 J5 (by rw [partsL_len]; omega)
        rw [PK.out] at hy0
        obtain ⟨fn, tmps, assign, body, hy, _, hR⟩ := yield_wide (r := 0) (m' := m - 1) hy0
        dsimp only [enc] at hy
        have E1 := Lib.hid (A1.out.kept (grown_of_below g5 none) (by simp))
        have E2 := Lib.hid (A2.out.kept (grown_of_below g5 none) (by simp))
        have E3 := Lib.hid (A3.out.kept (grown_of_below g5 none) (by simp))
        have E4 := Lib.hid (A4.out.kept (grown_of_below g5 none) (by simp))
        have E5 := Lib.hid ((g5.block _ (Array.getElem?_eq_some_iff.1 A5.out).1).trans A5.out)
        have sg := g5.size
        clear AT p2 p3 p4 p5 p6 hy0 J5
        gi_wp2
        refine hR.mono ?_
        rintro e V3 (⟨rfl, hJ3, hK3⟩ | ⟨rfl, hJx3, hK3⟩)
        · gi_wp2
          go_roundw
          case rel => exact ⟨k + 1, by omega, by go_num, by rw [partsL_succ, PK.out]; exact hJ3, kpA_box E1.out hK3 bf lf, kpA_box E2.out hK3 bx lx, kpA_box E3.out hK3 bY lY, kpA_box E4.out hK3 hBW (by omega), hK3.2 _ (by omega) (by omega) _ E5.out, by have := hK3.1; omega⟩
          case measure => simp [intOf]; omega
        · have F5 := hK3.2 Dd (by omega) (by omega) _ E5.out
          have R5 := hJx.putObj (.deferred none) hJx3 (by omega) F5 rfl
          gi_wp2
          refine ⟨by simp, .inl ⟨_, _, rfl, run_takeDeferred F5, ?_⟩⟩
          exact ⟨_, results_none rfl _ _ _, ⟨_, rfl⟩, .inr ⟨partsL 0 X Y (k + 1), partsL_pre 0 X Y (k + 1) 2 (by omega), by rw [partsL_succ, PK.out]; exact R5⟩⟩
      · have hJ4 : J (partsL 0 X Y 2) wr := by
          obtain rfl : k = 2 := by omega
          exact HJ.out
        have R5 := hJ.putObj (.deferred none) hJ4 (by omega) B5.out rfl
        have hk' : 2 ≤ k := by omega
        gi_wp2
        refine ⟨by simp, .inl ⟨_, _, rfl, run_takeDeferred B5.out, ?_⟩⟩
        exact ⟨_, results_none rfl _ _ _, ⟨_, rfl⟩, .inl ⟨_, rfl, R5⟩⟩
set_option maxRecDepth 100000 in
set_option maxHeartbeats 4000000 in
theorem parts1_1 (X Y : Int) (m : Nat) (hm : 3 ≤ m) (hX : 0 ≤ X ∧ X ≤ 400) (hY0 : 0 ≤ Y ∧ Y ≤ 400) (l B Bf Bx By : Nat) (bf : B ≤ Bf) (bx : B ≤ Bx) (bY : B ≤ By) (lf : Bf ≠ l) (lx : Bx ≠ l) (lY : By ≠ l) (J Jx : List Part → World → Prop) (W : World) (hlW : l < W.heap.size) (hJ : OwnFrom W.heap.size J) (hJx : OwnFrom W.heap.size Jx)
    (hY : ∀ pre x W1, J pre W1 → pre.length < 6 → YieldAt Fence.wide (m - 1) Tryz.prog l (enc x) W1 fun e W' =>
      (e = .returned (.bool true) ∧ J (pre ++ [x]) W' ∧ KpA B l W1 W') ∨ (e = .returned (.bool false) ∧ Jx (pre ++ [x]) W' ∧ KpA B l W1 W'))
    (h0 : J [] W) (h1 : Boxed W Bf 140 (.int .i64 1)) (h2 : Boxed W Bx 3 (.int .i64 X)) (h3 : Boxed W By 3 (.int .i64 Y)) :
    CallsIn Fence.wide m Tryz.prog 141 #[.func (.yield l) #[] #[], .pointer (some ⟨Bf, 0, none⟩), .pointer (some ⟨Bx, 0, none⟩), .pointer (some ⟨By, 0, none⟩)] W fun e W' => (∃ v, e = .returned v) ∧
      ((∃ ys, ys = partsL 1 X Y 2 ∧ J ys W') ∨ (∃ pre, pre <+: partsL 1 X Y 2 ∧ Jx pre W')) := by
  have hBW : B ≤ W.heap.size := Nat.le_trans bf (Nat.le_of_lt h1.lt)
  have c1 := (h1.alloc (.cells #[.func (.yield l) #[] #[]] 174)).cell
  have c2 := (h2.alloc (.cells #[.func (.yield l) #[] #[]] 174)).cell
  have c3 := (h3.alloc (.cells #[.func (.yield l) #[] #[]] 174)).cell
  refine callsIn_of_wp_marks Tryz.func141 rfl trivial ?_ rfl
  simp only [Tryz.ntmps141, List.size_toArray, List.length_cons, List.length_nil, Nat.reduceAdd, Nat.reduceSub, Array.replicate_succ, Array.replicate_zero, List.push_toArray, List.append_toArray, List.nil_append, List.cons_append]
  have hm1 : 1 ≤ m := by omega
  have hm2 : 1 ≤ m - 1 := by omega
  gi_wp2_with (refine ⟨trivial, ?_⟩; gi_at_call 142; refine (luma_in 1 X Y (m - 1) _).mono ?_; rintro e w' ⟨rfl, rfl⟩)
  have b4 := Boxed.new W 174 (.func (.yield l) #[] #[])
  obtain ⟨Wa, hWa⟩ : ∃ Wa, W.alloc (.cells #[.func (.yield l) #[] #[]] 174) = Wa := ⟨_, rfl⟩
  have sa : Wa.heap.size = W.heap.size + 1 := by rw [← hWa]; simp
  have a1 : Boxed Wa Bf 140 (.int .i64 1) := by rw [← hWa]; exact h1.alloc _
  have a2 : Boxed Wa Bx 3 (.int .i64 X) := by rw [← hWa]; exact h2.alloc _
  have a3 : Boxed Wa By 3 (.int .i64 Y) := by rw [← hWa]; exact h3.alloc _
  have a0 : J [] Wa := by rw [← hWa]; exact hJ.alloc _ h0
  rw [hWa] at b4 ⊢
  have d1 := ((Boxed.new Wa 140 (.int .i64 1)).alloc (.cells #[.int .i64 X] 3)).alloc (.cells #[.int .i64 Y] 3)
  have d2 := (Boxed.new (Wa.alloc (.cells #[.int .i64 1] 140)) 3 (.int .i64 X)).alloc (.cells #[.int .i64 Y] 3)
  have d3 := Boxed.new ((Wa.alloc (.cells #[.int .i64 1] 140)).alloc (.cells #[.int .i64 X] 3)) 3 (.int .i64 Y)
  simp only [World.size_alloc] at d2 d3
  have a0 := hJ.alloc (.cells #[.int .i64 Y] 3) (hJ.alloc (.cells #[.int .i64 X] 3) (hJ.alloc (.cells #[.int .i64 1] 140) a0))
  have a1 := ((a1.alloc (.cells #[.int .i64 1] 140)).alloc (.cells #[.int .i64 X] 3)).alloc (.cells #[.int .i64 Y] 3)
  have a2 := ((a2.alloc (.cells #[.int .i64 1] 140)).alloc (.cells #[.int .i64 X] 3)).alloc (.cells #[.int .i64 Y] 3)
  have a3 := ((a3.alloc (.cells #[.int .i64 1] 140)).alloc (.cells #[.int .i64 X] 3)).alloc (.cells #[.int .i64 Y] 3)
  have b4 := ((b4.alloc (.cells #[.int .i64 1] 140)).alloc (.cells #[.int .i64 X] 3)).alloc (.cells #[.int .i64 Y] 3)
  have sb : (((Wa.alloc (.cells #[.int .i64 1] 140)).alloc (.cells #[.int .i64 X] 3)).alloc (.cells #[.int .i64 Y] 3)).heap.size = W.heap.size + 4 := by simp; omega
  obtain ⟨Wb, hWb⟩ : ∃ Wb, ((Wa.alloc (.cells #[.int .i64 1] 140)).alloc (.cells #[.int .i64 X] 3)).alloc (.cells #[.int .i64 Y] 3) = Wb := ⟨_, rfl⟩
  rw [hWb] at a0 a1 a2 a3 b4 d1 d2 d3 sb ⊢
  rw [sa] at d1 d2 d3
  clear hWa hWb c1 c2 c3 h1 h2 h3 h0
  have d3' : Boxed Wb (W.heap.size + 1 + 2) 3 (.int .i64 Y) := d3
  refine wpIn_rangeFunc_ownH (F := Fence.wide) rfl (by omega) (gf := 166) (lb := #[.pointer (some ⟨W.heap.size + 1, 0, none⟩), .pointer (some ⟨W.heap.size + 1 + 1, 0, none⟩), .pointer (some ⟨W.heap.size + 1 + 2, 0, none⟩)]) rfl trivial (enters_of Tryz.func166 (by kernel_rfl) rfl)
    (luma_stops 1 X Y (m - 1) (by omega) (by decide) hX hY0 (W.heap.size + 1) _ _ _ (Nat.le_refl _) (by omega) (by omega) Wb d1 d2 d3') kpC_t (fun V l' o o' _ h hc _ => kpC_b V l' o o' h hc) (Below.refl _ _) (fun _ => rfl)
    (fun pre V => (J pre V ∧ Boxed V Bf 140 (.int .i64 1) ∧ Boxed V Bx 3 (.int .i64 X) ∧ Boxed V By 3 (.int .i64 Y)) ∧ Boxed V W.heap.size 174 (.func (.yield l) #[] #[]))
    (fun c pre V => c = .ret ∧ Jx pre V)
    (OwnFrom.and (OwnFrom.and (own_le hJ (by omega)) (OwnFrom.and (Own.from (boxed_own _ _ (fun _ => _)) _) (OwnFrom.and (Own.from (boxed_own _ _ (fun _ => _)) _) (Own.from (boxed_own _ _ (fun _ => _)) _)))) (Own.from (boxed_own _ _ (fun _ => _)) _))
    (fun c => fun s A C row ⟨h1, h2⟩ hg hr => ⟨h1, own_le hJx (by omega) s A C row h2 hg hr⟩)
    ⟨⟨a0, a1, a2, a3⟩, b4⟩
    (fun x a' V => ∃ q, V.heap[q]? = some (.cells #[.int .i64 x.1, .int .i64 x.2.1, .int .i64 x.2.2] 143 (0, 0)) ∧ a' = { tmps := #[.func (.yield l) #[] #[], .pointer (some ⟨Bf, 0, none⟩), .pointer (some ⟨Bx, 0, none⟩), .pointer (some ⟨By, 0, none⟩), .pointer (some ⟨W.heap.size, 0, none⟩), .pointer (some ⟨q, 0, none⟩), undef, undef, undef, .int .i64 1, .int .i64 X, .int .i64 Y, .func (.func 166) #[] #[.pointer (some ⟨W.heap.size + 1, 0, none⟩), .pointer (some ⟨W.heap.size + 1 + 1, 0, none⟩), .pointer (some ⟨W.heap.size + 1 + 2, 0, none⟩)], .agg #[.int .i64 x.1, .int .i64 x.2.1, .int .i64 x.2.2], undef, undef, undef, undef, undef, undef, undef, undef, undef, undef, undef, undef, undef, undef, undef, undef, undef, undef, undef, undef, undef, undef, undef, undef, undef, undef, undef, undef, undef, undef, undef, undef, undef, undef, undef, undef, undef], defers := [] })
    (fun x a' => own_cells _ _ _)
    ?assign ?body ?done ?stop
  case assign =>
    rintro l2 pre x V K ⟨⟨h1, h2, h3, h4⟩, h5⟩ hK
    dsimp only [enc]
    gi_wp2
    exact hK _ _ ((KeepsOthers.alloc _ _).from _) (kpC_alloc V _) ⟨⟨hJ.alloc _ h1, h2.alloc _, h3.alloc _, h4.alloc _⟩, h5.alloc _⟩ ⟨V.heap.size, heap_alloc_new V _, rfl⟩
  case body =>
    rintro l2 pre x a' V hl ⟨r, hr⟩ ⟨⟨hJp, h1, h2, h3⟩, h4⟩ ⟨q, hq, rfl⟩ hlt
    obtain ⟨fn, tmps, assign, body, hy, hR, _⟩ := yield_wide (r := l2) (m' := m - 1 - 1 - 1) (hY pre x V hJp (by omega))
    dsimp only [enc] at hy
    have c4 := h4.cell
    obtain ⟨q0, q1, q2⟩ := cells3 hq
    have hm3 : 1 ≤ m - 1 - 1 := by omega
    have D1 := Lib.hid h1
    have D2 := Lib.hid h2
    have D3 := Lib.hid h3
    have D4 := Lib.hid h4
    clear h1 h2 h3 h4 hJp hq hr
    gi_wp2
    refine hR.mono ?_
    rintro e V3 (⟨rfl, hJ3, hK3⟩ | ⟨rfl, hJx3, hK3⟩)
    · gi_wp2
      exact ⟨⟨hK3.1, fun k o hk h ho => hK3.2 k (by omega) (by omega) o h⟩, fun i hi o h hc => hK3.2 i (by omega) (by omega) o h, ⟨hJ3, kpA_box D1.out hK3 bf lf, kpA_box D2.out hK3 bx lx, kpA_box D3.out hK3 bY lY⟩, kpA_box D4.out hK3 (by omega) (by omega)⟩
    · gi_wp2
      exact ⟨⟨hK3.1, fun k o hk h ho => hK3.2 k (by omega) (by omega) o h⟩, rfl, hJx3⟩
  case stop =>
    rintro Dd c pre V hD hSp ⟨rfl, hJx3⟩ hK
    gi_wp2
    refine ⟨by simp, .inl ⟨_, _, rfl, run_takeDeferred hK, ?_⟩⟩
    exact ⟨_, results_none rfl _ _ _, ⟨_, rfl⟩, .inr ⟨pre, luma_parts 2 hSp, hJx.putObj _ hJx3 (by omega) hK rfl⟩⟩
  case done =>
    rintro Dd ys V hD rfl ⟨⟨hJ4, h1, h2, h3⟩, h4⟩ hK
    have p1 := Past.cell h1.cell
    have D1 := Lib.hid h1
    have D2 := Lib.hid h2
    have D3 := Lib.hid h3
    have D4 := Lib.hid h4
    have HJ4 := Lib.hid hJ4
    have HK := Lib.hid hK
    clear h1 h2 h3 h4 hJ4 hK
    gi_wp2
    refine regionIn_head 5 (by kernel_rfl) (by kernel_rfl) ?_
    simp only [List.take_succ_cons, List.take_zero, List.drop_succ_cons, List.drop_zero]
    have WI : ∀ x : Past V, Calls Tryz.prog 119 #[.int .i64 1] x.now fun e w' => e = .returned (.int .i64 352) ∧ Below x.now.heap.size x.now w' := fun x => (wide_any 1 _).mono (by rintro e w' ⟨rfl, rfl⟩; exact ⟨rfl, Below.refl _ _⟩)
    have HI : ∀ x : Past V, Calls Tryz.prog 120 #[.int .i64 1] x.now fun e w' => e = .returned (.int .i64 288) ∧ Below x.now.heap.size x.now w' := fun x => (high_any 1 _).mono (by rintro e w' ⟨rfl, rfl⟩; exact ⟨rfl, Below.refl _ _⟩)
    repeat (go_big_quiet_step (first | (go_at_call 119; exact past_call (WI _)) | (go_at_call 120; exact past_call (HI _))))
    refine wpQuiet_nil ?_
    rintro V5 ⟨⟨_, h5⟩, rfl⟩
    clear p1 WI HI
    gi_wp2
    gi_loopw [23] (fun i wr => ∃ k : Nat, k ≤ 2 ∧ i = .int .i64 k ∧ J (partsL 1 X Y k) wr ∧ Boxed wr Bf 140 (.int .i64 1) ∧ Boxed wr Bx 3 (.int .i64 X) ∧ Boxed wr By 3 (.int .i64 Y) ∧ Boxed wr W.heap.size 174 (.func (.yield l) #[] #[]) ∧ wr.heap[Dd]? = some (.deferred (some [])) ∧ W.heap.size ≤ wr.heap.size)
      (fun i _ => 2 - (intOf i).toNat)
    case atStart => exact ⟨0, by omega, rfl, by unfold partsL; rw [List.range_zero, List.map_nil, List.append_nil]; exact hJ _ _ _ none HJ4.out (grown_of_below h5 none) (fun _ e => by cases e), D1.out.kept (grown_of_below h5 none) (by simp), D2.out.kept (grown_of_below h5 none) (by simp), D3.out.kept (grown_of_below h5 none) (by simp), D4.out.kept (grown_of_below h5 none) (by simp), (h5.block _ (Array.getElem?_eq_some_iff.1 HK.out).1).trans HK.out, by have := (Array.getElem?_eq_some_iff.1 HK.out).1; have := h5.size; omega⟩
    case round =>
      obtain ⟨k, hk, rfl, hJk, b1, b2, b3, b4, b5, b6⟩ := hrel
      have HJ := Lib.hid hJk
      have B1 := Lib.hid b1
      have B2 := Lib.hid b2
      have B3 := Lib.hid b3
      have B4 := Lib.hid b4
      have B5 := Lib.hid b5
      have c1 := b1.cell
      clear hJk b1 b2 b3 b4 b5
      by_cases hk2 : k < 2
      · obtain ⟨S, hS⟩ : ∃ S : Int, S = 101376 + (k : Int) * 101376 / 4 := ⟨_, rfl⟩
        have bS : 0 ≤ S ∧ S ≤ 200000 := by omega
        obtain ⟨xk, hxk⟩ : ∃ xk : Int, xk = X / 2 := ⟨_, rfl⟩
        obtain ⟨yk, hyk⟩ : ∃ yk : Int, yk = Y / 2 := ⟨_, rfl⟩
        have bx2 : 0 ≤ xk ∧ xk ≤ 200 := by omega
        have by2 : 0 ≤ yk ∧ yk ≤ 200 := by omega
        have PK : Hid (chrP 1 X Y k = ((k : Int) + 5, S + yk * 176 + xk, 176)) := Lib.hid (by unfold chrP; rw [hxk, hyk, hS]; rfl)
        gi_wp2_with (refine ⟨trivial, ?_⟩; gi_at_call 119; refine (callsIn_wide.2 (wide_any 1 _)).mono ?_; rintro e w' ⟨rfl, rfl⟩; rw [show wV 1 = 352 from rfl])
        rw [← hS]
        obtain ⟨wa, hwa⟩ : ∃ wa, wr.alloc (.cells #[.int .i64 S, .int .i64 176] 176) = wa := ⟨_, rfl⟩
        have ha : Below wr.heap.size wr wa := by rw [← hwa]; exact (Below.refl _ _).alloc (Nat.le_refl _) _
        have ga : wa.heap[wr.heap.size]? = some (.cells #[.int .i64 S, .int .i64 176] 176 (0, 0)) := by rw [← hwa]; exact heap_alloc_new wr _
        rw [hwa]
        have A1 := Lib.hid (B1.out.kept (grown_of_below ha none) (by simp))
        have A2 := Lib.hid (B2.out.kept (grown_of_below ha none) (by simp))
        have A3 := Lib.hid (B3.out.kept (grown_of_below ha none) (by simp))
        have A4 := Lib.hid (B4.out.kept (grown_of_below ha none) (by simp))
        have A5 := Lib.hid ((ha.block _ (Array.getElem?_eq_some_iff.1 B5.out).1).trans B5.out)
        have AJ := Lib.hid (hJ _ _ _ none HJ.out (grown_of_below ha none) (fun _ e => by cases e))
        have sa : wr.heap.size ≤ wa.heap.size := ha.size
        clear hwa c1
        have p2 := Past.cell A2.out.cell
        have p3 := Past.cell A3.out.cell
        have p4 := Past.cell A4.out.cell
        have q1 : wa.cell? ⟨wr.heap.size, 0, none⟩ = some (.int .i64 S) := by simp [World.cell?, ga]
        have q2 : wa.cell? ⟨wr.heap.size, 1, none⟩ = some (.int .i64 176) := by simp [World.cell?, ga]
        have p5 := Past.cell q1
        have p6 := Past.cell q2
        clear q1 q2 ga
        have AT : ∀ x : Past wa, Calls Tryz.prog 143 #[.agg #[.int .i64 S, .int .i64 176], .int .i64 (X / 2), .int .i64 (Y / 2)] x.now fun e w' => e = .returned (.int .i64 (S + yk * 176 + xk)) ∧ Below x.now.heap.size x.now w' := fun x => by
          rw [← hxk, ← hyk]
          exact frAt_any S 176 xk yk (S + yk * 176 + xk) (yk * 176) x.now rfl rfl (by omega) (by omega) (by omega)
        clear hS hxk hyk
        refine regionIn_head 12 (by kernel_rfl) (by kernel_rfl) ?_
        simp only [List.take_succ_cons, List.take_zero, List.drop_succ_cons, List.drop_zero]
        repeat (go_big_quiet_step ((go_at_call 143; exact past_call (AT _))))
        refine wpQuiet_nil ?_
        rintro w5 ⟨⟨_, g5⟩, rfl⟩
        have J5 := hJ _ _ _ none AJ.out (grown_of_below g5 none) (fun _ e => by cases e)
        have hy0 := hY (partsL 1 X Y k) (chrP 1 X Y k) w5 J5 (by rw [partsL_len]; omega)
        rw [PK.out] at hy0
        obtain ⟨fn, tmps, assign, body, hy, _, hR⟩ := yield_wide (r := 0) (m' := m - 1) hy0
        dsimp only [enc] at hy
        have E1 := Lib.hid (A1.out.kept (grown_of_below g5 none) (by simp))
        have E2 := Lib.hid (A2.out.kept (grown_of_below g5 none) (by simp))
        have E3 := Lib.hid (A3.out.kept (grown_of_below g5 none) (by simp))
        have E4 := Lib.hid (A4.out.kept (grown_of_below g5 none) (by simp))
        have E5 := Lib.hid ((g5.block _ (Array.getElem?_eq_some_iff.1 A5.out).1).trans A5.out)
        have sg := g5.size
        clear AT p2 p3 p4 p5 p6 hy0 J5
        gi_wp2
        refine hR.mono ?_
        rintro e V3 (⟨rfl, hJ3, hK3⟩ | ⟨rfl, hJx3, hK3⟩)
        · gi_wp2
          go_roundw
          case rel => exact ⟨k + 1, by omega, by go_num, by rw [partsL_succ, PK.out]; exact hJ3, kpA_box E1.out hK3 bf lf, kpA_box E2.out hK3 bx lx, kpA_box E3.out hK3 bY lY, kpA_box E4.out hK3 hBW (by omega), hK3.2 _ (by omega) (by omega) _ E5.out, by have := hK3.1; omega⟩
          case measure => simp [intOf]; omega
        · have F5 := hK3.2 Dd (by omega) (by omega) _ E5.out
          have R5 := hJx.putObj (.deferred none) hJx3 (by omega) F5 rfl
          gi_wp2
          refine ⟨by simp, .inl ⟨_, _, rfl, run_takeDeferred F5, ?_⟩⟩
          exact ⟨_, results_none rfl _ _ _, ⟨_, rfl⟩, .inr ⟨partsL 1 X Y (k + 1), partsL_pre 1 X Y (k + 1) 2 (by omega), by rw [partsL_succ, PK.out]; exact R5⟩⟩
      · have hJ4 : J (partsL 1 X Y 2) wr := by
          obtain rfl : k = 2 := by omega
          exact HJ.out
        have R5 := hJ.putObj (.deferred none) hJ4 (by omega) B5.out rfl
        have hk' : 2 ≤ k := by omega
        gi_wp2
        refine ⟨by simp, .inl ⟨_, _, rfl, run_takeDeferred B5.out, ?_⟩⟩
        exact ⟨_, results_none rfl _ _ _, ⟨_, rfl⟩, .inl ⟨_, rfl, R5⟩⟩
theorem parts1_any (n X Y : Int) (hn : n = 0 ∨ n = 1) (m : Nat) (hm : 3 ≤ m) (hX : 0 ≤ X ∧ X ≤ 400) (hY0 : 0 ≤ Y ∧ Y ≤ 400) (l B Bf Bx By : Nat) (bf : B ≤ Bf) (bx : B ≤ Bx) (bY : B ≤ By) (lf : Bf ≠ l) (lx : Bx ≠ l) (lY : By ≠ l) (J Jx : List Part → World → Prop) (W : World) (hlW : l < W.heap.size) (hJ : OwnFrom W.heap.size J) (hJx : OwnFrom W.heap.size Jx)
    (hY : ∀ pre x W1, J pre W1 → pre.length < 6 → YieldAt Fence.wide (m - 1) Tryz.prog l (enc x) W1 fun e W' =>
      (e = .returned (.bool true) ∧ J (pre ++ [x]) W' ∧ KpA B l W1 W') ∨ (e = .returned (.bool false) ∧ Jx (pre ++ [x]) W' ∧ KpA B l W1 W'))
    (h0 : J [] W) (h1 : Boxed W Bf 140 (.int .i64 n)) (h2 : Boxed W Bx 3 (.int .i64 X)) (h3 : Boxed W By 3 (.int .i64 Y)) :
    CallsIn Fence.wide m Tryz.prog 141 #[.func (.yield l) #[] #[], .pointer (some ⟨Bf, 0, none⟩), .pointer (some ⟨Bx, 0, none⟩), .pointer (some ⟨By, 0, none⟩)] W fun e W' => (∃ v, e = .returned v) ∧
      ((∃ ys, ys = partsL n X Y 2 ∧ J ys W') ∨ (∃ pre, pre <+: partsL n X Y 2 ∧ Jx pre W')) := by
  rcases hn with rfl | rfl
  · exact parts1_0 X Y m hm hX hY0 l B Bf Bx By bf bx bY lf lx lY J Jx W hlW hJ hJx hY h0 h1 h2 h3
  · exact parts1_1 X Y m hm hX hY0 l B Bf Bx By bf bx bY lf lx lY J Jx W hlW hJ hJx hY h0 h1 h2 h3
theorem parts_seq (n X Y : Int) (hn : n = 0 ∨ n = 1) (m : Nat) (hm : 3 ≤ m) (hX : 0 ≤ X ∧ X ≤ 400) (hY0 : 0 ≤ Y ∧ Y ≤ 400) (B Bf Bx By : Nat) (bf : B ≤ Bf) (bx : B ≤ Bx) (bY : B ≤ By) (w : World) (h1 : Boxed w Bf 140 (.int .i64 n)) (h2 : Boxed w Bx 3 (.int .i64 X)) (h3 : Boxed w By 3 (.int .i64 Y)) :
    SeqN m Tryz.prog 141 #[.pointer (some ⟨Bf, 0, none⟩), .pointer (some ⟨Bx, 0, none⟩), .pointer (some ⟨By, 0, none⟩)] enc (KpA B) (fun ys => ys = partsL n X Y 2) (fun pre => pre <+: partsL n X Y 2) 6 w := fun l J Jx W hW hl hlW hJ hJx hY h0 =>
  parts1_any n X Y hn m hm hX hY0 l B Bf Bx By bf bx bY (by have := h1.lt; omega) (by have := h2.lt; omega) (by have := h3.lt; omega) J Jx W hlW hJ hJx hY h0 (h1.kept (grown_of_below hW none) (by simp)) (h2.kept (grown_of_below hW none) (by simp)) (h3.kept (grown_of_below hW none) (by simp))
end Pt
end Go.Proofs.YtbmglemjfodfhaaGreat
