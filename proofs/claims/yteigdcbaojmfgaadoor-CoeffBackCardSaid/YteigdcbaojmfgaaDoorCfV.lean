/- coeff.Get. -/
import Derived.Test.YteigdcbaojmfgaaDoorCfR
import Derived.Test.YteigdcbaojmfgaaDoorCfN2
namespace Go.Proofs.YteigdcbaojmfgaaDoor
open Go.RowKit Go.Shelf
attribute [local go_sem] Oper.semAt_some
set_option linter.unusedSimpArgs false
set_option linter.unusedVariables false
namespace Cf
section
set_option maxRecDepth 100000
set_option maxHeartbeats 4000000
set_option linter.unusedVariables false
/-- the four results' cells, from B on. -/
structure GR (B : Nat) (w : World) (r l : Int) (en : Bool) (n e : Int) (V : World) : Prop where
  p : V.heap[B]? = some (.cells #[.int .i64 r, .int .i64 l] 26 (0, 0))
  b : Boxed V (B + 1) 4 (.bool en)
  n : Boxed V (B + 2) 3 (.int .i64 n)
  e : Boxed V (B + 3) 27 (.int .i64 e)
  bel : Below B w V
theorem ob_set {V : World} {b : Nat} {vs : Array Value} {t : TypeId} (h : V.heap[b]? = some (.cells vs t (0, 0))) (i : Nat) (v : Value) : (V.setCell ⟨b, i, none⟩ v).heap[b]? = some (.cells (vs.setIfInBounds i v) t (0, 0)) := by
  obtain ⟨hlt, hk⟩ := Array.getElem?_eq_some_iff.1 h
  show (V.heap.modify b _)[b]? = _
  rw [Array.getElem?_eq_getElem (by rw [Array.size_modify]; exact hlt), Array.getElem_modify_self, hk]
  rfl
theorem GR.grown {B : Nat} {w : World} {r l : Int} {en : Bool} {n e : Int} {V V' : World} {row : Option Nat} (h : GR B w r l en n e V) (hg : V.grownBy V' row) (hr : ∀ x, row = some x → B + 4 ≤ x) : GR B w r l en n e V' :=
  ⟨(hg.block _ (Array.getElem?_eq_some_iff.1 h.p).1 (fun e => by have := hr _ e.symm; omega)).trans h.p, h.b.kept hg (fun e => by have := hr _ e.symm; omega), h.n.kept hg (fun e => by have := hr _ e.symm; omega), h.e.kept hg (fun e => by have := hr _ e.symm; omega),
    h.bel.grown hg (Nat.le_of_lt (Array.getElem?_eq_some_iff.1 h.p).1) (fun g e => by have := hr _ e; omega)⟩
theorem GR.below {B : Nat} {w : World} {r l : Int} {en : Bool} {n e : Int} {V V' : World} (h : GR B w r l en n e V) (hb : Below V.heap.size V V') : GR B w r l en n e V' := h.grown (grown_of_below hb none) (fun _ e => by cases e)
theorem GR.own {β : Type} {B : Nat} {w : World} {r l : Int} {en : Bool} {n e : Int} (hB : B ≤ w.heap.size) : OwnFrom B (fun (_ : β) V => GR B w r l en n e V) := fun s X Y row hs hg hr =>
  ⟨Own.from (obj_own (β := β) _ _ rfl) _ s X Y row hs.p hg hr, Own.from (boxed_own _ _ (fun _ : β => _)) _ s X Y row hs.b hg hr, Own.from (boxed_own _ _ (fun _ : β => _)) _ s X Y row hs.n hg hr, Own.from (boxed_own _ _ (fun _ : β => _)) _ s X Y row hs.e hg hr,
    ownFrom_below hB (Nat.le_refl _) s X Y row hs.bel hg hr⟩
/-- all results written. -/
theorem GR.set {B : Nat} {w : World} {r l : Int} {en : Bool} {n e : Int} {V : World} (h : GR B w r l en n e V) (r' l' : Int) (en' : Bool) (n' e' : Int) :
    GR B w r' l' en' n' e' (((((V.setCell ⟨B, 0, none⟩ (.int .i64 r')).setCell ⟨B, 1, none⟩ (.int .i64 l')).setCell ⟨B + 1, 0, none⟩ (.bool en')).setCell ⟨B + 1 + 1, 0, none⟩ (.int .i64 n')).setCell ⟨B + 1 + 1 + 1, 0, none⟩ (.int .i64 e')) := by
  have o := ob_set (ob_set h.p 0 (.int .i64 r')) 1 (.int .i64 l')
  have g1 : V.grownBy ((V.setCell ⟨B, 0, none⟩ (.int .i64 r')).setCell ⟨B, 1, none⟩ (.int .i64 l')) (some B) := grown_set (grown_cell V _ _ _) _ _
  have b1 := (h.bel.setCell (p := ⟨B, 0, none⟩) (Nat.le_refl _) (.int .i64 r')).setCell (p := ⟨B, 1, none⟩) (Nat.le_refl _) (.int .i64 l')
  have x1 := h.b.kept g1 (fun e => by have := Option.some.inj e; omega)
  have x2 := h.n.kept g1 (fun e => by have := Option.some.inj e; omega)
  have x3 := h.e.kept g1 (fun e => by have := Option.some.inj e; omega)
  generalize (V.setCell ⟨B, 0, none⟩ (.int .i64 r')).setCell ⟨B, 1, none⟩ (.int .i64 l') = V1 at *
  have g2 := grown_cell V1 (B + 1) 0 (.bool en')
  have b2 := b1.setCell (p := ⟨B + 1, 0, none⟩) (Nat.le_succ _) (.bool en')
  have y1 := x1.set (.bool en')
  have y0 := (g2.block _ (Array.getElem?_eq_some_iff.1 o).1 (fun e => by have := Option.some.inj e; omega)).trans o
  have y2 := x2.kept g2 (fun e => by have := Option.some.inj e; omega)
  have y3 := x3.kept g2 (fun e => by have := Option.some.inj e; omega)
  generalize V1.setCell ⟨B + 1, 0, none⟩ (.bool en') = V2 at *
  have g3 := grown_cell V2 (B + 1 + 1) 0 (.int .i64 n')
  have b3 := b2.setCell (p := ⟨B + 1 + 1, 0, none⟩) (by simp; omega) (.int .i64 n')
  have z0 := (g3.block _ (Array.getElem?_eq_some_iff.1 y0).1 (fun e => by have := Option.some.inj e; omega)).trans y0
  have z1 := y1.kept g3 (fun e => by have := Option.some.inj e; omega)
  have z2 := y2.set (.int .i64 n')
  have z3 := y3.kept g3 (fun e => by have := Option.some.inj e; omega)
  generalize V2.setCell ⟨B + 1 + 1, 0, none⟩ (.int .i64 n') = V3 at *
  have g4 := grown_cell V3 (B + 1 + 1 + 1) 0 (.int .i64 e')
  have b4 := b3.setCell (p := ⟨B + 1 + 1 + 1, 0, none⟩) (by simp; omega) (.int .i64 e')
  exact ⟨(g4.block _ (Array.getElem?_eq_some_iff.1 z0).1 (fun e => by have := Option.some.inj e; omega)).trans z0, z1.kept g4 (fun e => by have := Option.some.inj e; omega), z2.kept g4 (fun e => by have := Option.some.inj e; omega), z3.set _, b4⟩
theorem results_get {fn : Func} {p q s t : Tmp} (hr : fn.results = #[.cell p 26, .cell q 4, .cell s 3, .cell t 27]) (tmps : Array Value) {B : Nat} {w V : World} {r l : Int} {en : Bool} {n e : Int}
    (hp : tmps.getD p undef = .pointer (some ⟨B, 0, none⟩)) (hq : tmps.getD q undef = .pointer (some ⟨B + 1, 0, none⟩)) (hs : tmps.getD s undef = .pointer (some ⟨B + 2, 0, none⟩)) (ht : tmps.getD t undef = .pointer (some ⟨B + 3, 0, none⟩)) (h : GR B w r l en n e V) :
    (results fn tmps).run Tryd.prog V = .ok (.tuple #[prV r l, .bool en, .int .i64 n, .int .i64 e]) V := by
  have c1 := h.b.cell
  have c2 := h.n.cell
  have c3 := h.e.cell
  have d0 : V.cell? ⟨B, 0, none⟩ = some (.int .i64 r) := by simp [World.cell?, h.p]
  have d1 : V.cell? ⟨B, 1, none⟩ = some (.int .i64 l) := by simp [World.cell?, h.p]
  have hp' : tmps[p]?.getD undef = .pointer (some ⟨B, 0, none⟩) := by simpa using hp
  have hq' : tmps[q]?.getD undef = .pointer (some ⟨B + 1, 0, none⟩) := by simpa using hq
  have hs' : tmps[s]?.getD undef = .pointer (some ⟨B + 2, 0, none⟩) := by simpa using hs
  have ht' : tmps[t]?.getD undef = .pointer (some ⟨B + 3, 0, none⟩) := by simpa using ht
  unfold prV
  simp [results, hr, hp', hq', hs', ht', asAddr, loadVar, go_sem, c1, c2, c3, d0, d1, Tryd.underlying26, Tryd.underlying27, Tryd.underlying4, Tryd.underlying3]
theorem GR.new (w : World) (r l : Int) (en : Bool) (n e : Int) : GR w.heap.size w r l en n e ((((w.alloc (.cells #[.int .i64 r, .int .i64 l] 26)).alloc (.cells #[.bool en] 4)).alloc (.cells #[.int .i64 n] 3)).alloc (.cells #[.int .i64 e] 27)) := by
  have h1 := heap_alloc_new w (.cells #[.int .i64 r, .int .i64 l] 26)
  have hb := (Below.refl w.heap.size w).alloc (Nat.le_refl _) (.cells #[.int .i64 r, .int .i64 l] 26)
  have hz : (w.alloc (.cells #[.int .i64 r, .int .i64 l] 26)).heap.size = w.heap.size + 1 := by simp
  generalize w.alloc (.cells #[.int .i64 r, .int .i64 l] 26) = W1 at *
  have h2 := Boxed.new W1 4 (.bool en)
  rw [hz] at h2
  have h3 := Boxed.new (W1.alloc (.cells #[.bool en] 4)) 3 (.int .i64 n)
  rw [World.size_alloc, hz] at h3
  have h4 := Boxed.new ((W1.alloc (.cells #[.bool en] 4)).alloc (.cells #[.int .i64 n] 3)) 27 (.int .i64 e)
  rw [World.size_alloc, World.size_alloc, hz] at h4
  have c : Below W1.heap.size W1 (((W1.alloc (.cells #[.bool en] 4)).alloc (.cells #[.int .i64 n] 3)).alloc (.cells #[.int .i64 e] 27)) := (((Below.refl _ W1).alloc (Nat.le_refl _) _).alloc (by simp) _).alloc (by simp; omega) _
  exact ⟨(c.block _ (Array.getElem?_eq_some_iff.1 h1).1).trans h1, (h2.alloc _).alloc _, h3.alloc _, h4, chain hb c⟩
/-- what Get tells of a place that is no place. -/
theorem Get_low (v : Value) (p : Int) (first : Bool) (w : World) (hp : p < 0) : Calls Tryd.prog 11 #[v, .int .i64 p, .bool first] w fun e w' => e = .returned (.tuple #[prV 0 0, .bool false, .int .i64 0, .int .i64 3]) ∧ Below w.heap.size w w' := by
  have G0 := GR.new w 0 0 false 0 0
  have hr0 : ∀ j, j < 2 → _ := fun j _ => frozen_of_row G0.p j
  have r0 := hr0 0 (by omega)
  have r1 := hr0 1 (by omega)
  have x0 := G0.b.frozen
  have x1 := G0.n.frozen
  have x2 := G0.e.frozen
  have c0 := G0.b.cell
  have c1 := G0.n.cell
  have c2 := G0.e.cell
  have d0 := cell_row G0.p (i := 0) (v := .int .i64 0) rfl
  have d1 := cell_row G0.p (i := 1) (v := .int .i64 0) rfl
  have HG := Lib.hid G0
  clear G0 hr0
  have G3 := Lib.hid (GR.new w 0 0 false 0 3)
  go_enter Tryd.func11, Tryd.ntmps11
  go_wp2_with fail
  exact bodyPost_ret (results_get rfl _ rfl rfl rfl rfl G3.out) rfl ⟨rfl, G3.out.bel⟩
theorem Get_high (a : Option Addr) (N c : Nat) (p : Int) (first : Bool) (w : World) (hN : N ≤ 1000000) (hp : p > 8 * (N : Int)) : Calls Tryd.prog 11 #[.slice a N c, .int .i64 p, .bool first] w fun e w' => e = .returned (.tuple #[prV 0 0, .bool false, .int .i64 0, .int .i64 5]) ∧ Below w.heap.size w w' := by
  have n0 : ¬ p < 0 := by omega
  have HC := Lib.hid (fun V => Count_any a N c V hN)
  have G0 := GR.new w 0 0 false 0 0
  have hr0 : ∀ j, j < 2 → _ := fun j _ => frozen_of_row G0.p j
  have r0 := hr0 0 (by omega)
  have r1 := hr0 1 (by omega)
  have x0 := G0.b.frozen
  have x1 := G0.n.frozen
  have x2 := G0.e.frozen
  have c0 := G0.b.cell
  have c1 := G0.n.cell
  have c2 := G0.e.cell
  have d0 := cell_row G0.p (i := 0) (v := .int .i64 0) rfl
  have d1 := cell_row G0.p (i := 1) (v := .int .i64 0) rfl
  have HG := Lib.hid G0
  clear G0 hr0
  have G3 := Lib.hid (GR.new w 0 0 false 0 5)
  go_enter Tryd.func11, Tryd.ntmps11
  go_wp2_with (go_at_call 27; refine (HC.out _).mono ?_; rintro e w1 ⟨rfl, rfl⟩)
  exact bodyPost_ret (results_get rfl _ rfl rfl rfl rfl G3.out) rfl ⟨rfl, G3.out.bel⟩
end
end Cf
end Go.Proofs.YteigdcbaojmfgaaDoor
