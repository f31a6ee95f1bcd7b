/- kind.Of: which parts a kind has. | kind.Of: which parts a kind has; the reference's. -/
import Derived.Test.YtbmglemjfodfhaaGreatMgIx
import Derived.Deep.DeepCutAuto
set_option linter.unusedVariables false
set_option linter.unusedSimpArgs false
namespace Go.Proofs.YtbmglemjfodfhaaGreat
open Go.RowKit Go.Shelf
attribute [local go_sem] Oper.semAt_some
namespace Kd
open Fr Pt
theorem run_loadVar_vs {P : Program} {w : World} {g m : Nat} {vs : Array Value} {ty e : TypeId} (h : ∀ j v, vs[j]? = some v → w.cell? ⟨g, j, none⟩ = some v) (hu : P.underlying ty = some (.array m e)) (hi : (P.info? ty).map (·.size) = some vs.size) :
    (loadVar ty ⟨g, 0, none⟩).run P w = .ok (.agg vs) w := by
  have hl : (loadCells ⟨g, 0, none⟩ vs.toList.length).run P w = .ok vs.toList.toArray w :=
    run_loadCells_list (P := P) w ⟨g, 0, none⟩ vs.toList (fun j v hv => by
      have hadd : (⟨g, 0, none⟩ : Addr).add j = ⟨g, j, none⟩ := by unfold Addr.add; split <;> simp_all
      rw [hadd]
      exact h j v (by simpa using hv))
  cases hq : P.info? ty with
  | none => simp [hq] at hi
  | some i =>
    have hs : i.size = vs.size := by simpa [hq] using hi
    have hagg : (isAgg ty).run P w = .ok true w := by
      unfold isAgg
      rw [Sem.run_bind, run_underlying hu w]
      rfl
    simp only [Array.length_toList, Array.toArray_toList] at hl
    simp [loadVar, Sem.run_bind, hagg, sizeOf, typeInfo, hq, hs, hl]
theorem results_cell_vs {P : Program} {fn : Func} {p : Tmp} {ty : TypeId} (hr : fn.results = #[.cell p ty]) (tmps : Array Value) {w : World} {g m : Nat} {vs : Array Value} {e : TypeId}
    (hp : tmps.getD p undef = .pointer (some ⟨g, 0, none⟩)) (h : ∀ j v, vs[j]? = some v → w.cell? ⟨g, j, none⟩ = some v) (hu : P.underlying ty = some (.array m e)) (hi : (P.info? ty).map (·.size) = some vs.size) :
    (results fn tmps).run P w = .ok (.agg vs) w := by
  have hp' : tmps[p]?.getD undef = .pointer (some ⟨g, 0, none⟩) := by simpa using hp
  simp [results, hr, hp', asAddr, run_loadVar_vs h hu hi]
theorem wpList_build {P : Program} {ops : Array Oper} {rest : List Oper} {o : Oper} {a : Act} {w : World} {Q : Exit → Act → World → Prop} (hgd : o.guard = none) (ty : TypeId) (ps : Array (Nat × Operand)) (ho : o.op = .build ty ps)
    (v : Value) (hv : ∀ w, (Instr.build ty (ps.map fun (i, x) => (i, a.eval x))).run P w = .ok v w)
    (hK : wpList P ops Q rest (a.put o.dst v) w) : wpList P ops Q (o :: rest) a w :=
  wpList_plain hgd fun _ hKK => by
    unfold Oper.wp execOp
    simp only [ho, Sem.run_bind, Sem.run_pure, Result.andThen_ok, hv]
    exact hKK _ _ hK
theorem there_new (w : World) (vs : Array Value) (t : TypeId) : (w.alloc (.cells vs t)).there w.heap.size 0 vs.size := fun j hj => by
  have hb := heap_alloc_new w (.cells vs t)
  rw [Nat.zero_add]
  exact ⟨by rw [cell_of_row _ _ j vs t (0, 0) hb]; simp [hj], frozen_of_row hb j⟩
theorem run_index_vs {P : Program} (w : World) {vs : Array Value} {m q : Nat} {ty e : TypeId} (hu : P.underlying ty = some (.array m e)) (hagg : (isAgg e).run P w = .ok true w) (hi : (P.info? e).map (·.size) = some q) (kk : IntKind) (j : Nat) (hj : j < m) (vs' : Array Value) (he : vs.extract (j * q) (j * q + q) = vs') (hz : vs'.size = q) :
    (Instr.index ty (.agg vs) (.int kk (j : Int))).run P w = .ok (.agg vs') w := by
  obtain ⟨i, hi, hs⟩ := info_size hi
  have hz : (sizeOf e).run P w = .ok q w := by simp [sizeOf, typeInfo, hi, hs]
  have hp : (part e vs (j * q)).run P w = .ok (.agg vs') w := by
    unfold part
    rw [Sem.run_bind, hagg]
    simp [Sem.run_bind, hz, he]
  simp only [Instr.index, asIntOf, Sem.run_bind, Sem.run_pure, Result.andThen_ok, run_underlying hu w]
  rw [if_pos (by omega)]
  simp only [Sem.run_bind, hz, Result.andThen_ok, Int.toNat_natCast, hp]
def kOk (n : Int) : Bool := decide (1 ≤ n) && decide (n ≤ 10)
def pI (n : Int) : Bool := kOk n && decide (n ≤ 2)
def pQ (n : Int) : Bool := kOk n && (n == 2 || n == 4 || n == 7 || n == 10)
def pV (n : Int) : Bool := kOk n && decide (5 ≤ n)
def pF (n : Int) : Bool := kOk n && decide (8 ≤ n)
def pC (n : Int) : Bool := kOk n && (n == 3 || n == 4 || n == 6 || n == 7 || decide (9 ≤ n))
def kE (n : Int) : Int := if kOk n then 0 else 18
def parts (n : Int) : Array Value := #[.bool (pI n), .bool (pQ n), .bool (pV n), .bool (pF n), .bool (pC n)]
def tabV : Array Value := #[
  .string ⟨#[48, 48, 48, 49]⟩, .bool true, .bool false, .bool false, .bool false, .bool false,
  .string ⟨#[48, 48, 48, 48, 48, 48, 49]⟩, .bool true, .bool true, .bool false, .bool false, .bool false,
  .string ⟨#[49]⟩, .bool false, .bool false, .bool false, .bool false, .bool true,
  .string ⟨#[48, 48, 48, 48, 49]⟩, .bool false, .bool true, .bool false, .bool false, .bool true,
  .string ⟨#[48, 48, 48, 48, 48, 48, 48, 48, 49]⟩, .bool false, .bool false, .bool true, .bool false, .bool false,
  .string ⟨#[48, 48, 48, 48, 48, 48, 48, 49]⟩, .bool false, .bool false, .bool true, .bool false, .bool true,
  .string ⟨#[48, 48, 48, 48, 48, 48, 48, 48, 48, 49]⟩, .bool false, .bool true, .bool true, .bool false, .bool true,
  .string ⟨#[48, 48, 49]⟩, .bool false, .bool false, .bool true, .bool true, .bool false,
  .string ⟨#[48, 49]⟩, .bool false, .bool false, .bool true, .bool true, .bool true,
  .string ⟨#[48, 48, 48, 48, 48, 49]⟩, .bool false, .bool true, .bool true, .bool true, .bool true]
def kD (k : Nat) := match tabV.getD (6 * k) undef with | .string s => s | _ => ⟨#[]⟩
def rowV (k : Nat) : Array Value := #[.string (kD k), .bool (pI ((k : Int) + 1)), .bool (pQ ((k : Int) + 1)), .bool (pV ((k : Int) + 1)), .bool (pF ((k : Int) + 1)), .bool (pC ((k : Int) + 1))]
theorem tab_row (k : Nat) (hk : k < 10) : tabV.extract (k * 6) (k * 6 + 6) = rowV k := by
  rcases (by omega : k = 0 ∨ k = 1 ∨ k = 2 ∨ k = 3 ∨ k = 4 ∨ k = 5 ∨ k = 6 ∨ k = 7 ∨ k = 8 ∨ k = 9) with rfl | rfl | rfl | rfl | rfl | rfl | rfl | rfl | rfl | rfl <;> rfl
theorem tab_one : tabV.all (·.oneCell') = true := by kernel_rfl
theorem wp_alloc_gen {P : Program} {c : Code} {Q : Exit → Act → World → Prop} {a : Act} {w : World} {vs : Array Value} {t : TypeId} (h : ∀ W, W.there w.heap.size 0 vs.size → Below w.heap.size w W → c.wp P Q a W) : c.wp P Q a (w.alloc (.cells vs t)) :=
  h _ (there_new w vs t) ((Below.refl w.heap.size w).alloc (Nat.le_refl _) _)
set_option maxRecDepth 100000 in
set_option maxHeartbeats 4000000 in
theorem table_any (w : World) :
    Calls Tryz.prog 129 #[] w fun e w' => e = .returned (.agg tabV) ∧ Below w.heap.size w w' := by
  go_enter Tryz.func129, Tryz.ntmps129
  go_upto_region 1 with fail
  refine wp_alloc_gen ?_
  intro W ht hb
  have ht : W.there w.heap.size 0 tabV.size := ht
  go_wp2_with (first
    | (refine wpList_build rfl 159 _ rfl (.agg tabV) (fun w' => by kernel_rfl) ?_)
    | (refine wpList_store_mid rfl 159 (.tmp 0) (.tmp 21) rfl w.heap.size 0 tabV rfl rfl ht rfl tab_one ?_))
  have hr := World.rangeAt_setCells_same W w.heap.size 0 tabV.toList (by rw [Array.length_toList]; exact ht)
  refine bodyPost_ret (results_cell_vs (g := w.heap.size) (vs := tabV) rfl _ rfl (fun j v hv => ?_) Tryz.underlying159 rfl) rfl ⟨rfl, hb.grown (grown_setCells _ _ _ _) hb.size (fun g hg => by cases hg; exact Nat.le_refl _)⟩
  have := hr j v (by simpa using hv)
  rwa [Nat.zero_add] at this
theorem index_any (w : World) (k : Nat) (hk : k < 10) : (Instr.index 159 (.agg tabV) (.int .i64 (k : Int))).run Tryz.prog w = .ok (.agg (rowV k)) w :=
  run_index_vs w (q := 6) Tryz.underlying159 (by unfold isAgg; rw [Sem.run_bind, run_underlying Tryz.underlying117 w]; rfl) (by kernel_rfl) .i64 k hk (rowV k) (tab_row k hk) rfl
def first10 (k : Nat) : List (Fin 10) := (List.finRange 10).take k
theorem first10_succ (k : Nat) (h : k < 10) : first10 k ++ [⟨k, h⟩] = first10 (k + 1) := by
  rcases (by omega : k = 0 ∨ k = 1 ∨ k = 2 ∨ k = 3 ∨ k = 4 ∨ k = 5 ∨ k = 6 ∨ k = 7 ∨ k = 8 ∨ k = 9) with rfl | rfl | rfl | rfl | rfl | rfl | rfl | rfl | rfl | rfl <;> rfl
theorem first10_len (k : Nat) (h : k < 10) : (first10 k).length < 10 := by
  rcases (by omega : k = 0 ∨ k = 1 ∨ k = 2 ∨ k = 3 ∨ k = 4 ∨ k = 5 ∨ k = 6 ∨ k = 7 ∨ k = 8 ∨ k = 9) with rfl | rfl | rfl | rfl | rfl | rfl | rfl | rfl | rfl | rfl <;> decide
theorem first10_pre (k : Nat) : first10 k <+: List.finRange 10 := List.take_prefix k _
def encK (x : Fin 10) : Array Value := #[.int .i64 ((x : Nat) + 1 : Int), .agg (rowV x)]
def KpT (_ : Nat) (_ _ : World) : Prop := True
set_option maxRecDepth 100000 in
set_option maxHeartbeats 2000000 in
theorem all1_in (m : Nat) (hm : 1 ≤ m) (l : Nat) (J Jx : List (Fin 10) → World → Prop) (W : World) (hJ : OwnFrom W.heap.size J)
    (hY : ∀ pre x W1, J pre W1 → pre.length < 10 → YieldAt Fence.wide (m - 1) Tryz.prog l (encK x) W1 fun e W' =>
      (e = .returned (.bool true) ∧ J (pre ++ [x]) W' ∧ KpT l W1 W') ∨ (e = .returned (.bool false) ∧ Jx (pre ++ [x]) W' ∧ KpT l W1 W'))
    (h0 : J [] W) :
    CallsIn Fence.wide m Tryz.prog 128 #[.func (.yield l) #[] #[]] W fun e W' => (∃ v, e = .returned v) ∧
      ((∃ ys, ys = List.finRange 10 ∧ J ys W') ∨ (∃ pre, pre <+: List.finRange 10 ∧ Jx pre W')) := by
  refine callsIn_of_wp Tryz.func128 rfl trivial ?_ rfl
  simp only [Tryz.ntmps128, List.size_toArray, List.length_cons, List.length_nil, Nat.reduceAdd, Nat.reduceSub, Array.replicate_succ, Array.replicate_zero, List.push_toArray, List.append_toArray, List.nil_append, List.cons_append]
  gi_wp2_with (refine ⟨trivial, ?_⟩; gi_at_call 129; refine (callsIn_wide.2 (table_any _)).mono ?_; rintro e w1 ⟨rfl, h1⟩)
  have H0 := Lib.hid (hJ _ _ _ none h0 (grown_of_below h1 none) (fun _ e => by cases e))
  clear h0 h1
  gi_loopw [5] (fun i wr => ∃ k : Nat, k ≤ 10 ∧ i = .int .i64 k ∧ J (first10 k) wr) (fun i _ => 10 - (intOf i).toNat)
  case atStart => exact ⟨0, by omega, rfl, H0.out⟩
  case round =>
    obtain ⟨k, hk, rfl, hJk⟩ := hrel
    have HJ := Lib.hid hJk
    clear hJk
    by_cases hk10 : k < 10
    · have ix := fun w' => index_any w' k hk10
      dsimp only [rowV] at ix
      have hy0 := hY (first10 k) ⟨k, hk10⟩ (wr.alloc (.cells #[.string (kD k), .bool (pI ((k : Int) + 1)), .bool (pQ ((k : Int) + 1)), .bool (pV ((k : Int) + 1)), .bool (pF ((k : Int) + 1)), .bool (pC ((k : Int) + 1))] 117))
        (hJ _ _ _ none HJ.out (World.grownBy_alloc wr _ none) (fun _ e => by cases e)) (first10_len k hk10)
      obtain ⟨fn, tmps, assign, body, hy, _, hR⟩ := yield_wide (r := 0) (m' := m - 1) hy0
      dsimp only [encK, rowV] at hy
      clear hy0
      obtain ⟨q1, e1⟩ : ∃ b, pI ((k : Int) + 1) = b := ⟨_, rfl⟩
      obtain ⟨q2, e2⟩ : ∃ b, pQ ((k : Int) + 1) = b := ⟨_, rfl⟩
      obtain ⟨q3, e3⟩ : ∃ b, pV ((k : Int) + 1) = b := ⟨_, rfl⟩
      obtain ⟨q4, e4⟩ : ∃ b, pF ((k : Int) + 1) = b := ⟨_, rfl⟩
      obtain ⟨q5, e5⟩ : ∃ b, pC ((k : Int) + 1) = b := ⟨_, rfl⟩
      rw [e1, e2, e3, e4, e5] at ix hy
      rw [e1, e2, e3, e4, e5] at hR
      clear e1 e2 e3 e4 e5
      have hk' : (k : Int) < 10 := by omega
      gi_wp2
      refine hR.mono ?_
      rintro e W3 (⟨rfl, hJ3, _⟩ | ⟨rfl, hJx3, _⟩)
      · gi_wp2
        go_roundw
        case rel => exact ⟨k + 1, by omega, by go_num, by rw [← first10_succ k hk10]; exact hJ3⟩
        case measure => simp [intOf]; omega
      · gi_wp2
        refine bodyPost_ret (results_none rfl _ _ _) rfl ?_
        exact ⟨⟨_, rfl⟩, .inr ⟨first10 (k + 1), first10_pre _, by rw [← first10_succ k hk10]; exact hJx3⟩⟩
    · have hJ10 : J (List.finRange 10) wr := by
        obtain rfl : k = 10 := by omega
        exact HJ.out
      have hk' : 10 ≤ (k : Int) := by omega
      gi_wp2
      go_end0
      exact ⟨⟨_, rfl⟩, .inl ⟨_, rfl, hJ10⟩⟩
theorem all_in (m : Nat) (w : World) :
    CallsIn Fence.wide m Tryz.prog 85 #[] w fun e w' => e = .returned (.func (.func 128) #[] #[]) ∧ w' = w := by
  refine callsIn_wide.2 ?_
  go_enter Tryz.func85, Tryz.ntmps85
  go_wp2
  go_ret
  exact ⟨rfl, rfl⟩
theorem all_seq (m : Nat) (hm : 1 ≤ m) (w : World) :
    SeqN m Tryz.prog 128 #[] encK KpT (fun ys => ys = List.finRange 10) (fun pre => pre <+: List.finRange 10) 10 w := fun l J Jx W _ _ _ hJ _ hY h0 =>
  all1_in m hm l J Jx W hJ hY h0
end Kd
end Go.Proofs.YtbmglemjfodfhaaGreat
namespace Go.Proofs.YtbmglemjfodfhaaGreat
open Go.RowKit Go.Shelf
attribute [local go_sem] Oper.semAt_some
namespace Kd
open Fr Pt
theorem obj_own {β : Type} (B : Nat) (o : Obj) (hc : o.isCells = true) : Own (fun (_ : β) W => W.heap[B]? = some o) := fun _ X _ _ hs hg hrow => by
  refine (hg.block B (Array.getElem?_eq_some_iff.1 hs).1 (fun e => ?_)).trans hs
  obtain ⟨o', ho, hcc⟩ := hrow B e.symm
  rw [hs] at ho
  cases ho
  rw [hc] at hcc
  cases hcc
structure KS (V : World) (B : Nat) (n : Int) (p : Array Value) (e : Int) : Prop where
  k : Boxed V B 3 (.int .i64 n)
  p : V.heap[B + 1]? = some (.cells p 67 (0, 0))
  e : Boxed V (B + 2) 34 (.int .i64 e)
theorem ks_own {β : Type} (B : Nat) (n : Int) (p : Array Value) (e : Int) : Own (fun (_ : β) V => KS V B n p e) := fun s X Y row hs hg hr =>
  ⟨boxed_own B _ (fun _ : β => _) s X Y row hs.k hg hr, obj_own (β := β) _ _ rfl s X Y row hs.p hg hr, boxed_own _ _ (fun _ : β => _) s X Y row hs.e hg hr⟩
theorem KS.kept {V V' : World} {B : Nat} {n : Int} {p : Array Value} {e : Int} {row : Option Nat} (h : KS V B n p e) (hg : V.grownBy V' row) (h0 : some B ≠ row) (h1 : some (B + 1) ≠ row) (h2 : some (B + 2) ≠ row) : KS V' B n p e :=
  ⟨h.k.kept hg h0, (hg.block _ (Array.getElem?_eq_some_iff.1 h.p).1 h1).trans h.p, h.e.kept hg h2⟩
theorem ob_set {V : World} {b : Nat} {vs : Array Value} {t : TypeId} (h : V.heap[b]? = some (.cells vs t (0, 0))) (i : Nat) (v : Value) : (V.setCell ⟨b, i, none⟩ v).heap[b]? = some (.cells (vs.setIfInBounds i v) t (0, 0)) := by
  obtain ⟨hlt, hk⟩ := Array.getElem?_eq_some_iff.1 h
  show (V.heap.modify b _)[b]? = _
  rw [Array.getElem?_eq_getElem (by rw [Array.size_modify]; exact hlt), Array.getElem_modify_self, hk]
  rfl
theorem grown_cell (V : World) (b i : Nat) (v : Value) : V.grownBy (V.setCell ⟨b, i, none⟩ v) (some b) := grown_set (World.grownBy.refl V _) i v
theorem KS.five {V : World} {B : Nat} {n e : Int} {y0 y1 y2 y3 y4 : Value} (h : KS V B n #[y0, y1, y2, y3, y4] e) (x0 x1 x2 x3 x4 : Value) (e' : Int) :
    KS ((((((V.setCell ⟨B + 1, 0, none⟩ x0).setCell ⟨B + 1, 1, none⟩ x1).setCell ⟨B + 1, 2, none⟩ x2).setCell ⟨B + 1, 3, none⟩ x3).setCell ⟨B + 1, 4, none⟩ x4).setCell ⟨B + 1 + 1, 0, none⟩ (.int .i64 e')) B n #[x0, x1, x2, x3, x4] e' := by
  obtain ⟨V1, h1⟩ : ∃ V1, V1 = ((((V.setCell ⟨B + 1, 0, none⟩ x0).setCell ⟨B + 1, 1, none⟩ x1).setCell ⟨B + 1, 2, none⟩ x2).setCell ⟨B + 1, 3, none⟩ x3).setCell ⟨B + 1, 4, none⟩ x4 := ⟨_, rfl⟩
  have g : V.grownBy V1 (some (B + 1)) := by
    rw [h1]
    exact grown_set (grown_set (grown_set (grown_set (grown_cell V _ _ _) _ _) _ _) _ _) _ _
  have o : V1.heap[B + 1]? = some (.cells #[x0, x1, x2, x3, x4] 67 (0, 0)) := by
    rw [h1]
    exact ob_set (ob_set (ob_set (ob_set (ob_set h.p 0 x0) 1 x1) 2 x2) 3 x3) 4 x4
  rw [← h1]
  have k1 := h.k.kept g (fun e => by have := Option.some.inj e; omega)
  have k3 := h.e.kept g (fun e => by have := Option.some.inj e; omega)
  have g2 := grown_cell V1 (B + 1 + 1) 0 (.int .i64 e')
  exact ⟨k1.kept g2 (fun e => by have := Option.some.inj e; omega), (g2.block _ (Array.getElem?_eq_some_iff.1 o).1 (fun e => by have := Option.some.inj e; omega)).trans o, k3.set _⟩
theorem below_five {w V : World} {B : Nat} (h : Below B w V) (b : Nat) (hb : B ≤ b) (x0 x1 x2 x3 x4 x5 : Value) :
    Below B w ((((((V.setCell ⟨b + 1, 0, none⟩ x0).setCell ⟨b + 1, 1, none⟩ x1).setCell ⟨b + 1, 2, none⟩ x2).setCell ⟨b + 1, 3, none⟩ x3).setCell ⟨b + 1, 4, none⟩ x4).setCell ⟨b + 1 + 1, 0, none⟩ x5) :=
  (((((h.setCell (p := ⟨b + 1, 0, none⟩) (by simp; omega) x0).setCell (p := ⟨b + 1, 1, none⟩) (by simp; omega) x1).setCell (p := ⟨b + 1, 2, none⟩) (by simp; omega) x2).setCell (p := ⟨b + 1, 3, none⟩) (by simp; omega) x3).setCell (p := ⟨b + 1, 4, none⟩) (by simp; omega) x4).setCell (p := ⟨b + 1 + 1, 0, none⟩) (by simp; omega) x5
theorem keeps_five (V : World) (b : Nat) (x0 x1 x2 x3 x4 x5 : Value) :
    KeepsOthers V ((((((V.setCell ⟨b + 1, 0, none⟩ x0).setCell ⟨b + 1, 1, none⟩ x1).setCell ⟨b + 1, 2, none⟩ x2).setCell ⟨b + 1, 3, none⟩ x3).setCell ⟨b + 1, 4, none⟩ x4).setCell ⟨b + 1 + 1, 0, none⟩ x5) :=
  (((((KeepsOthers.setCell V _ _).trans (KeepsOthers.setCell _ _ _)).trans (KeepsOthers.setCell _ _ _)).trans (KeepsOthers.setCell _ _ _)).trans (KeepsOthers.setCell _ _ _)).trans (KeepsOthers.setCell _ _ _)
theorem results_two {fn : Func} {p q : Tmp} (hr : fn.results = #[.cell p 67, .cell q 34]) (tmps : Array Value) {w : World} {B : Nat} {n : Int} {b1 b2 b3 b4 b5 : Bool} {e : Int}
    (hp : tmps.getD p undef = .pointer (some ⟨B + 1, 0, none⟩)) (hq : tmps.getD q undef = .pointer (some ⟨B + 2, 0, none⟩)) (h : KS w B n #[.bool b1, .bool b2, .bool b3, .bool b4, .bool b5] e) :
    (results fn tmps).run Tryz.prog w = .ok (.tuple #[.agg #[.bool b1, .bool b2, .bool b3, .bool b4, .bool b5], .int .i64 e]) w := by
  have c2 := h.e.cell
  have d0 : w.cell? ⟨B + 1, 0, none⟩ = some (.bool b1) := by simp [World.cell?, h.p]
  have d1 : w.cell? ⟨B + 1, 1, none⟩ = some (.bool b2) := by simp [World.cell?, h.p]
  have d2 : w.cell? ⟨B + 1, 2, none⟩ = some (.bool b3) := by simp [World.cell?, h.p]
  have d3 : w.cell? ⟨B + 1, 3, none⟩ = some (.bool b4) := by simp [World.cell?, h.p]
  have d4 : w.cell? ⟨B + 1, 4, none⟩ = some (.bool b5) := by simp [World.cell?, h.p]
  have hp' : tmps[p]?.getD undef = .pointer (some ⟨B + 1, 0, none⟩) := by simpa using hp
  have hq' : tmps[q]?.getD undef = .pointer (some ⟨B + 2, 0, none⟩) := by simpa using hq
  simp [results, hr, hp', hq', asAddr, loadVar, go_sem, c2, d0, d1, d2, d3, d4, Tryz.underlying67, Tryz.underlying34]
theorem fin10_mem (n : Int) (h : ∀ x ∈ List.finRange 10, ((x : Nat) : Int) + 1 ≠ n) : kOk n = false := by
  unfold kOk
  by_cases hn : 1 ≤ n ∧ n ≤ 10
  · exfalso
    exact h ⟨(n - 1).toNat, by omega⟩ (List.mem_finRange _) (by show (((n - 1).toNat : Nat) : Int) + 1 = n; omega)
  · simp; omega
theorem fin10_ok (x : Fin 10) : kOk ((x : Nat) + 1 : Int) = true := by
  have := x.2
  unfold kOk
  simp; omega
theorem parts_no (n : Int) (h : kOk n = false) : parts n = #[.bool false, .bool false, .bool false, .bool false, .bool false] := by
  simp [parts, pI, pQ, pV, pF, pC, h]
set_option maxRecDepth 100000 in
set_option maxHeartbeats 4000000 in
theorem Of_any (n : Int) (w : World) :
    Calls Tryz.prog 42 #[.int .i64 n] w fun e w' => e = .returned (.tuple #[.agg (parts n), .int .i64 (kE n)]) ∧ Below w.heap.size w w' := by
  have KS0 : KS (((w.alloc (.cells #[.int .i64 n] 3)).alloc (.cells #[.bool false, .bool false, .bool false, .bool false, .bool false] 67)).alloc (.cells #[.int .i64 0] 34)) w.heap.size n #[.bool false, .bool false, .bool false, .bool false, .bool false] 0 := by
    refine ⟨((Boxed.new w 3 (.int .i64 n)).alloc _).alloc _, ?_, ?_⟩
    · have h1 := World.alloc_heap_new (w.alloc (.cells #[.int .i64 n] 3)) (.cells #[.bool false, .bool false, .bool false, .bool false, .bool false] 67)
      rw [World.size_alloc] at h1
      exact (Below.heap_alloc _ _ _ (Array.getElem?_eq_some_iff.1 h1).1).trans h1
    · have h2 := Boxed.new ((w.alloc (.cells #[.int .i64 n] 3)).alloc (.cells #[.bool false, .bool false, .bool false, .bool false, .bool false] 67)) 34 (.int .i64 0)
      simp only [World.size_alloc] at h2
      exact h2
  have bb : Below w.heap.size w (((w.alloc (.cells #[.int .i64 n] 3)).alloc (.cells #[.bool false, .bool false, .bool false, .bool false, .bool false] 67)).alloc (.cells #[.int .i64 0] 34)) := (((Below.refl w.heap.size w).alloc (Nat.le_refl _) _).alloc (by simp) _).alloc (by simp; omega) _
  refine (callsIn_wide (n := 12)).1 ?_
  refine callsIn_of_wp_marks Tryz.func42 rfl trivial ?_ rfl
  simp only [Tryz.ntmps42, List.size_toArray, List.length_cons, List.length_nil, Nat.reduceAdd, Nat.reduceSub, Array.replicate_succ, Array.replicate_zero, List.push_toArray, List.append_toArray, List.nil_append, List.cons_append]
  gi_wp2_with (refine ⟨trivial, ?_⟩; gi_at_call 85; refine (all_in _ _).mono ?_; rintro e w' ⟨rfl, rfl⟩)
  obtain ⟨W0, hW0⟩ : ∃ W0, (((w.alloc (.cells #[.int .i64 n] 3)).alloc (.cells #[.bool false, .bool false, .bool false, .bool false, .bool false] 67)).alloc (.cells #[.int .i64 0] 34)) = W0 := ⟨_, rfl⟩
  rw [hW0] at KS0 bb
  rw [hW0]
  clear hW0
  refine rangeN (gf := 128) (lb := #[]) rfl (enters_of Tryz.func128 (by kernel_rfl) rfl)
    (all_seq 11 (by decide) W0) (fun _ _ => trivial) (fun _ _ _ _ _ _ => trivial) (fun _ => rfl)
    (fun pre V => ((∀ x ∈ pre, ((x : Nat) : Int) + 1 ≠ n) ∧ KS V w.heap.size n #[.bool false, .bool false, .bool false, .bool false, .bool false] 0) ∧ Below w.heap.size w V)
    (fun c pre V => c = .ret ∧ (kOk n = true ∧ KS V w.heap.size n (parts n) 0) ∧ Below w.heap.size w V)
    (OwnFrom.and (OwnFrom.and (fun _ _ _ _ h _ _ => h) (Own.from (ks_own _ _ _ _) _)) (ownFrom_below (Nat.le_refl _) (bb.size)))
    (fun c => fun s A C row ⟨h1, ⟨h2, h3⟩, h4⟩ hg hr => ⟨h1, ⟨h2, Own.from (ks_own (β := Unit) _ _ _ _) _ () A C row h3 hg hr⟩, ownFrom_below (Nat.le_refl _) (bb.size) s A C row h4 hg hr⟩)
    ⟨⟨fun _ h => (by cases h), KS0⟩, bb⟩
    (fun x a' V => ∃ q, V.heap[q]? = some (.cells (rowV x) 117 (0, 0)) ∧ a' = { tmps := #[.int .i64 n, .pointer (some ⟨w.heap.size, 0, none⟩), .pointer (some ⟨w.heap.size + 1, 0, none⟩), .pointer (some ⟨w.heap.size + 1 + 1, 0, none⟩), .int .i64 ((x : Nat) + 1 : Int), .pointer (some ⟨q, 0, none⟩), .func (.func 128) #[] #[], .int .i64 ((x : Nat) + 1 : Int), .agg (rowV x), undef, undef, undef, undef, undef, undef], defers := [] })
    (fun x a' => fun s A C row ⟨q, h1, h2⟩ hg hr => ⟨q, Own.from (obj_own (β := Unit) q (.cells (rowV x) 117 (0, 0)) rfl) _ () A C row h1 hg hr, h2⟩)
    ?assign ?body ?done ?stop
  case assign =>
    rintro l pre x V K sV hl ⟨⟨h, h0⟩, h4⟩ hK
    dsimp only [encK, rowV] at *
    gi_wp2
    exact hK _ _ ((KeepsOthers.alloc _ _).from _) trivial ⟨⟨h, h0.kept (World.grownBy_alloc V _ none) (by simp) (by simp) (by simp)⟩, h4.alloc h4.size _⟩ ⟨V.heap.size, heap_alloc_new V _, rfl⟩
  case body =>
    rintro l pre x a' V hl ⟨r, hr⟩ ⟨⟨hne, h0⟩, h4⟩ ⟨q, hq, rfl⟩ hlt
    have hxok := fin10_ok x
    obtain ⟨X, hX⟩ : ∃ X : Int, ((x : Nat) : Int) + 1 = X := ⟨_, rfl⟩
    obtain ⟨D, hD⟩ : ∃ D, kD x = D := ⟨_, rfl⟩
    dsimp only [rowV] at hq
    dsimp only [rowV]
    rw [hX] at hq hxok
    rw [hD] at hq
    simp only [hX, hD]
    have q1 : V.cell? ⟨q, 1, none⟩ = some (.bool (pI X)) := by simp [World.cell?, hq]
    have q2 : V.cell? ⟨q, 2, none⟩ = some (.bool (pQ X)) := by simp [World.cell?, hq]
    have q3 : V.cell? ⟨q, 3, none⟩ = some (.bool (pV X)) := by simp [World.cell?, hq]
    have q4 : V.cell? ⟨q, 4, none⟩ = some (.bool (pF X)) := by simp [World.cell?, hq]
    have q5 : V.cell? ⟨q, 5, none⟩ = some (.bool (pC X)) := by simp [World.cell?, hq]
    have c0 := h0.k.cell
    by_cases hik : X = n
    · have t1 : (X == n) = true := by simp [hik]
      have c1 : ∀ j, j < 5 → V.frozen? ⟨w.heap.size + 1, j, none⟩ = false := fun j _ => frozen_of_row h0.p j
      have d0 := c1 0 (by omega)
      have d1 := c1 1 (by omega)
      have d2 := c1 2 (by omega)
      have d3 := c1 3 (by omega)
      have d4 := c1 4 (by omega)
      have e0 : V.cell? ⟨w.heap.size + 1, 0, none⟩ = some (.bool false) := by simp [World.cell?, h0.p]
      have e1 : V.cell? ⟨w.heap.size + 1, 1, none⟩ = some (.bool false) := by simp [World.cell?, h0.p]
      have e2 : V.cell? ⟨w.heap.size + 1, 2, none⟩ = some (.bool false) := by simp [World.cell?, h0.p]
      have e3 : V.cell? ⟨w.heap.size + 1, 3, none⟩ = some (.bool false) := by simp [World.cell?, h0.p]
      have e4 : V.cell? ⟨w.heap.size + 1, 4, none⟩ = some (.bool false) := by simp [World.cell?, h0.p]
      have c2 := h0.e.cell
      have f2 := h0.e.frozen
      have H0 := Lib.hid h0
      have H4 := Lib.hid h4
      have OK := Lib.hid hxok
      have HI := Lib.hid hik
      clear hne h0 h4 hq hr hxok
      gi_wp2
      exact ⟨(keeps_five V _ _ _ _ _ _ _).from _, trivial, rfl, ⟨by rw [← HI.out]; exact OK.out, H0.out.five _ _ _ _ _ 0⟩, below_five H4.out _ (Nat.le_refl _) _ _ _ _ _ _⟩
    · have t1 : (X == n) = false := by simp [hik]
      have HN := Lib.hid hne
      have HI := Lib.hid hik
      have H0 := Lib.hid h0
      have H4 := Lib.hid h4
      clear hne hik h0 h4 q1 q2 q3 q4 q5 hq hr
      gi_wp2
      exact ⟨KeepsFrom.refl _ _, trivial, ⟨fun y hy => by
        rcases List.mem_append.1 hy with h | h
        · exact HN.out y h
        · rw [List.mem_singleton.1 h, hX]; exact HI.out, H0.out⟩, H4.out⟩
  case stop =>
    rintro Dd c pre V hD hSp ⟨rfl, ⟨hok, h0⟩, h4⟩ hK
    have h0' : KS V w.heap.size n #[.bool (pI n), .bool (pQ n), .bool (pV n), .bool (pF n), .bool (pC n)] 0 := h0
    have hlt := h0.e.lt
    have e0 : kE n = 0 := by unfold kE; rw [hok]; rfl
    have b0 := bb.size
    gi_wp2
    refine ⟨by simp, .inl ⟨_, _, rfl, run_takeDeferred hK, ?_⟩⟩
    have hc : Dd ≠ w.heap.size ∧ Dd ≠ w.heap.size + 1 ∧ Dd ≠ w.heap.size + 2 := by
      refine ⟨fun e => ?_, fun e => ?_, fun e => ?_⟩
      · rw [e, show V.heap[w.heap.size]? = _ from h0.k] at hK; cases hK
      · rw [e, h0.p] at hK; cases hK
      · rw [e, show V.heap[w.heap.size + 2]? = _ from h0.e] at hK; cases hK
    have h1 := h0'.kept (grownBy_putObj' V Dd (.deferred none)) (fun e => by have := Option.some.inj e; omega) (fun e => by have := Option.some.inj e; omega) (fun e => by have := Option.some.inj e; omega)
    exact ⟨_, results_two rfl _ rfl rfl h1, by rw [e0]; rfl, h4.grown (grownBy_putObj' V Dd (.deferred none)) h4.size (fun g hg => by cases hg; omega)⟩
  case done =>
    rintro Dd ys V hD rfl ⟨⟨hne, h0⟩, h4⟩ hK
    have hok := fin10_mem n hne
    have e0 : kE n = 18 := by unfold kE; rw [hok]; rfl
    have b0 := bb.size
    have hc : Dd ≠ w.heap.size ∧ Dd ≠ w.heap.size + 1 ∧ Dd ≠ w.heap.size + 2 := by
      refine ⟨fun e => ?_, fun e => ?_, fun e => ?_⟩
      · rw [e, show V.heap[w.heap.size]? = _ from h0.k] at hK; cases hK
      · rw [e, h0.p] at hK; cases hK
      · rw [e, show V.heap[w.heap.size + 2]? = _ from h0.e] at hK; cases hK
    have c1 : ∀ j, j < 5 → V.frozen? ⟨w.heap.size + 1, j, none⟩ = false := fun j _ => frozen_of_row h0.p j
    have d0 := c1 0 (by omega)
    have d1 := c1 1 (by omega)
    have d2 := c1 2 (by omega)
    have d3 := c1 3 (by omega)
    have d4 := c1 4 (by omega)
    have e0 : V.cell? ⟨w.heap.size + 1, 0, none⟩ = some (.bool false) := by simp [World.cell?, h0.p]
    have e1 : V.cell? ⟨w.heap.size + 1, 1, none⟩ = some (.bool false) := by simp [World.cell?, h0.p]
    have e2 : V.cell? ⟨w.heap.size + 1, 2, none⟩ = some (.bool false) := by simp [World.cell?, h0.p]
    have e3 : V.cell? ⟨w.heap.size + 1, 3, none⟩ = some (.bool false) := by simp [World.cell?, h0.p]
    have e4 : V.cell? ⟨w.heap.size + 1, 4, none⟩ = some (.bool false) := by simp [World.cell?, h0.p]
    have c2 := h0.e.cell
    have f2 := h0.e.frozen
    have H0 := Lib.hid h0
    have H4 := Lib.hid h4
    have HK := Lib.hid hK
    clear h0 h4 hK hne
    gi_wp2
    have h1 := H0.out.five (.bool false) (.bool false) (.bool false) (.bool false) (.bool false) 18
    have hb := below_five H4.out _ (Nat.le_refl _) (.bool false) (.bool false) (.bool false) (.bool false) (.bool false) (.int .i64 18)
    have hK2 := (keeps_five V w.heap.size (.bool false) (.bool false) (.bool false) (.bool false) (.bool false) (.int .i64 18)).same Dd _ HK.out rfl
    refine ⟨by simp, .inl ⟨_, _, rfl, run_takeDeferred hK2, ?_⟩⟩
    have h2 := h1.kept (grownBy_putObj' _ Dd (.deferred none)) (fun e => by have := Option.some.inj e; omega) (fun e => by have := Option.some.inj e; omega) (fun e => by have := Option.some.inj e; omega)
    exact ⟨_, results_two rfl _ rfl rfl h2, by rw [parts_no n hok]; unfold kE; rw [hok]; rfl, hb.grown (grownBy_putObj' _ Dd (.deferred none)) hb.size (fun g hg => by cases hg; omega)⟩
end Kd
end Go.Proofs.YtbmglemjfodfhaaGreat
