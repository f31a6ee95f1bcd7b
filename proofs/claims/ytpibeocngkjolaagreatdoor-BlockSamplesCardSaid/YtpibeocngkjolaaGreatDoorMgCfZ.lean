/- coeff.Get. | coeff.Get: escapes, the end. | law08, plain: no code begins another. -/
import Derived.Test.YtpibeocngkjolaaGreatDoorMgCfN2
import Derived.Test.YtpibeocngkjolaaGreatDoorMgChF
set_option linter.unusedVariables false
set_option linter.unusedSimpArgs false

namespace Go.Proofs.YtpibeocngkjolaaGreatDoor
open Go.RowKit Go.Shelf
attribute [local go_sem] Oper.semAt_some
set_option linter.unusedSimpArgs false
set_option linter.unusedVariables false
namespace Cf
section
set_option maxRecDepth 100000
set_option maxHeartbeats 4000000
set_option linter.unusedVariables false
/-- the four results' cells, from B on. -/
structure GR (B : Nat) (w : World) (r l : Int) (en : Bool) (n e : Int) (V : World) : Prop where
  p : V.heap[B]? = some (.cells #[.int .i64 r, .int .i64 l] 69 (0, 0))
  b : Boxed V (B + 1) 4 (.bool en)
  n : Boxed V (B + 2) 3 (.int .i64 n)
  e : Boxed V (B + 3) 28 (.int .i64 e)
  bel : Below B w V
theorem ob_set {V : World} {b : Nat} {vs : Array Value} {t : TypeId} (h : V.heap[b]? = some (.cells vs t (0, 0))) (i : Nat) (v : Value) : (V.setCell ⟨b, i, none⟩ v).heap[b]? = some (.cells (vs.setIfInBounds i v) t (0, 0)) := by
  obtain ⟨hlt, hk⟩ := Array.getElem?_eq_some_iff.1 h
  show (V.heap.modify b _)[b]? = _
  rw [Array.getElem?_eq_getElem (by rw [Array.size_modify]; exact hlt), Array.getElem_modify_self, hk]
  rfl
theorem GR.grown {B : Nat} {w : World} {r l : Int} {en : Bool} {n e : Int} {V V' : World} {row : Option Nat} (h : GR B w r l en n e V) (hg : V.grownBy V' row) (hr : ∀ x, row = some x → B + 4 ≤ x) : GR B w r l en n e V' :=
  ⟨(hg.block _ (Array.getElem?_eq_some_iff.1 h.p).1 (fun e => by have := hr _ e.symm; omega)).trans h.p, h.b.kept hg (fun e => by have := hr _ e.symm; omega), h.n.kept hg (fun e => by have := hr _ e.symm; omega), h.e.kept hg (fun e => by have := hr _ e.symm; omega),
    h.bel.grown hg (Nat.le_of_lt (Array.getElem?_eq_some_iff.1 h.p).1) (fun g e => by have := hr _ e; omega)⟩
theorem GR.below {B : Nat} {w : World} {r l : Int} {en : Bool} {n e : Int} {V V' : World} (h : GR B w r l en n e V) (hb : Below V.heap.size V V') : GR B w r l en n e V' := h.grown (grown_of_below hb none) (fun _ e => by cases e)
theorem GR.own {β : Type} {B : Nat} {w : World} {r l : Int} {en : Bool} {n e : Int} (hB : B ≤ w.heap.size) : OwnFrom B (fun (_ : β) V => GR B w r l en n e V) := fun s X Y row hs hg hr =>
  ⟨Own.from (obj_own (β := β) _ _ rfl) _ s X Y row hs.p hg hr, Own.from (boxed_own _ _ (fun _ : β => _)) _ s X Y row hs.b hg hr, Own.from (boxed_own _ _ (fun _ : β => _)) _ s X Y row hs.n hg hr, Own.from (boxed_own _ _ (fun _ : β => _)) _ s X Y row hs.e hg hr,
    ownFrom_below hB (Nat.le_refl _) s X Y row hs.bel hg hr⟩
/-- all results written. -/
theorem GR.set {B : Nat} {w : World} {r l : Int} {en : Bool} {n e : Int} {V : World} (h : GR B w r l en n e V) (r' l' : Int) (en' : Bool) (n' e' : Int) :
    GR B w r' l' en' n' e' (((((V.setCell ⟨B, 0, none⟩ (.int .i64 r')).setCell ⟨B, 1, none⟩ (.int .i64 l')).setCell ⟨B + 1, 0, none⟩ (.bool en')).setCell ⟨B + 1 + 1, 0, none⟩ (.int .i64 n')).setCell ⟨B + 1 + 1 + 1, 0, none⟩ (.int .i64 e')) := by
  have o := ob_set (ob_set h.p 0 (.int .i64 r')) 1 (.int .i64 l')
  have g1 : V.grownBy ((V.setCell ⟨B, 0, none⟩ (.int .i64 r')).setCell ⟨B, 1, none⟩ (.int .i64 l')) (some B) := grown_set (grown_cell V _ _ _) _ _
  have b1 := (h.bel.setCell (p := ⟨B, 0, none⟩) (Nat.le_refl _) (.int .i64 r')).setCell (p := ⟨B, 1, none⟩) (Nat.le_refl _) (.int .i64 l')
  have x1 := h.b.kept g1 (fun e => by have := Option.some.inj e; omega)
  have x2 := h.n.kept g1 (fun e => by have := Option.some.inj e; omega)
  have x3 := h.e.kept g1 (fun e => by have := Option.some.inj e; omega)
  generalize (V.setCell ⟨B, 0, none⟩ (.int .i64 r')).setCell ⟨B, 1, none⟩ (.int .i64 l') = V1 at *
  have g2 := grown_cell V1 (B + 1) 0 (.bool en')
  have b2 := b1.setCell (p := ⟨B + 1, 0, none⟩) (Nat.le_succ _) (.bool en')
  have y1 := x1.set (.bool en')
  have y0 := (g2.block _ (Array.getElem?_eq_some_iff.1 o).1 (fun e => by have := Option.some.inj e; omega)).trans o
  have y2 := x2.kept g2 (fun e => by have := Option.some.inj e; omega)
  have y3 := x3.kept g2 (fun e => by have := Option.some.inj e; omega)
  generalize V1.setCell ⟨B + 1, 0, none⟩ (.bool en') = V2 at *
  have g3 := grown_cell V2 (B + 1 + 1) 0 (.int .i64 n')
  have b3 := b2.setCell (p := ⟨B + 1 + 1, 0, none⟩) (by simp; omega) (.int .i64 n')
  have z0 := (g3.block _ (Array.getElem?_eq_some_iff.1 y0).1 (fun e => by have := Option.some.inj e; omega)).trans y0
  have z1 := y1.kept g3 (fun e => by have := Option.some.inj e; omega)
  have z2 := y2.set (.int .i64 n')
  have z3 := y3.kept g3 (fun e => by have := Option.some.inj e; omega)
  generalize V2.setCell ⟨B + 1 + 1, 0, none⟩ (.int .i64 n') = V3 at *
  have g4 := grown_cell V3 (B + 1 + 1 + 1) 0 (.int .i64 e')
  have b4 := b3.setCell (p := ⟨B + 1 + 1 + 1, 0, none⟩) (by simp; omega) (.int .i64 e')
  exact ⟨(g4.block _ (Array.getElem?_eq_some_iff.1 z0).1 (fun e => by have := Option.some.inj e; omega)).trans z0, z1.kept g4 (fun e => by have := Option.some.inj e; omega), z2.kept g4 (fun e => by have := Option.some.inj e; omega), z3.set _, b4⟩
theorem results_get {fn : Func} {p q s t : Tmp} (hr : fn.results = #[.cell p 69, .cell q 4, .cell s 3, .cell t 28]) (tmps : Array Value) {B : Nat} {w V : World} {r l : Int} {en : Bool} {n e : Int}
    (hp : tmps.getD p undef = .pointer (some ⟨B, 0, none⟩)) (hq : tmps.getD q undef = .pointer (some ⟨B + 1, 0, none⟩)) (hs : tmps.getD s undef = .pointer (some ⟨B + 2, 0, none⟩)) (ht : tmps.getD t undef = .pointer (some ⟨B + 3, 0, none⟩)) (h : GR B w r l en n e V) :
    (results fn tmps).run Tryz.prog V = .ok (.tuple #[prV r l, .bool en, .int .i64 n, .int .i64 e]) V := by
  have c1 := h.b.cell
  have c2 := h.n.cell
  have c3 := h.e.cell
  have d0 : V.cell? ⟨B, 0, none⟩ = some (.int .i64 r) := by simp [World.cell?, h.p]
  have d1 : V.cell? ⟨B, 1, none⟩ = some (.int .i64 l) := by simp [World.cell?, h.p]
  have hp' : tmps[p]?.getD undef = .pointer (some ⟨B, 0, none⟩) := by simpa using hp
  have hq' : tmps[q]?.getD undef = .pointer (some ⟨B + 1, 0, none⟩) := by simpa using hq
  have hs' : tmps[s]?.getD undef = .pointer (some ⟨B + 2, 0, none⟩) := by simpa using hs
  have ht' : tmps[t]?.getD undef = .pointer (some ⟨B + 3, 0, none⟩) := by simpa using ht
  unfold prV
  simp [results, hr, hp', hq', hs', ht', asAddr, loadVar, go_sem, c1, c2, c3, d0, d1, Tryz.underlying69, Tryz.underlying28, Tryz.underlying4, Tryz.underlying3]
theorem GR.new (w : World) (r l : Int) (en : Bool) (n e : Int) : GR w.heap.size w r l en n e ((((w.alloc (.cells #[.int .i64 r, .int .i64 l] 69)).alloc (.cells #[.bool en] 4)).alloc (.cells #[.int .i64 n] 3)).alloc (.cells #[.int .i64 e] 28)) := by
  have h1 := heap_alloc_new w (.cells #[.int .i64 r, .int .i64 l] 69)
  have hb := (Below.refl w.heap.size w).alloc (Nat.le_refl _) (.cells #[.int .i64 r, .int .i64 l] 69)
  have hz : (w.alloc (.cells #[.int .i64 r, .int .i64 l] 69)).heap.size = w.heap.size + 1 := by simp
  generalize w.alloc (.cells #[.int .i64 r, .int .i64 l] 69) = W1 at *
  have h2 := Boxed.new W1 4 (.bool en)
  rw [hz] at h2
  have h3 := Boxed.new (W1.alloc (.cells #[.bool en] 4)) 3 (.int .i64 n)
  rw [World.size_alloc, hz] at h3
  have h4 := Boxed.new ((W1.alloc (.cells #[.bool en] 4)).alloc (.cells #[.int .i64 n] 3)) 28 (.int .i64 e)
  rw [World.size_alloc, World.size_alloc, hz] at h4
  have c : Below W1.heap.size W1 (((W1.alloc (.cells #[.bool en] 4)).alloc (.cells #[.int .i64 n] 3)).alloc (.cells #[.int .i64 e] 28)) := (((Below.refl _ W1).alloc (Nat.le_refl _) _).alloc (by simp) _).alloc (by simp; omega) _
  exact ⟨(c.block _ (Array.getElem?_eq_some_iff.1 h1).1).trans h1, (h2.alloc _).alloc _, h3.alloc _, h4, chain hb c⟩
/-- what Get tells of a place that is no place. -/
theorem Get_low (v : Value) (p : Int) (first : Bool) (w : World) (hp : p < 0) : Calls Tryz.prog 63 #[v, .int .i64 p, .bool first] w fun e w' => e = .returned (.tuple #[prV 0 0, .bool false, .int .i64 0, .int .i64 3]) ∧ Below w.heap.size w w' := by
  have G0 := GR.new w 0 0 false 0 0
  have hr0 : ∀ j, j < 2 → _ := fun j _ => frozen_of_row G0.p j
  have r0 := hr0 0 (by omega)
  have r1 := hr0 1 (by omega)
  have x0 := G0.b.frozen
  have x1 := G0.n.frozen
  have x2 := G0.e.frozen
  have c0 := G0.b.cell
  have c1 := G0.n.cell
  have c2 := G0.e.cell
  have d0 := cell_row G0.p (i := 0) (v := .int .i64 0) rfl
  have d1 := cell_row G0.p (i := 1) (v := .int .i64 0) rfl
  have HG := Lib.hid G0
  clear G0 hr0
  have G3 := Lib.hid (GR.new w 0 0 false 0 3)
  go_enter Tryz.func63, Tryz.ntmps63
  go_wp2_with fail
  exact bodyPost_ret (results_get rfl _ rfl rfl rfl rfl G3.out) rfl ⟨rfl, G3.out.bel⟩
theorem Get_high (a : Option Addr) (N c : Nat) (p : Int) (first : Bool) (w : World) (hN : N ≤ 1000000) (hp : p > 8 * (N : Int)) : Calls Tryz.prog 63 #[.slice a N c, .int .i64 p, .bool first] w fun e w' => e = .returned (.tuple #[prV 0 0, .bool false, .int .i64 0, .int .i64 5]) ∧ Below w.heap.size w w' := by
  have n0 : ¬ p < 0 := by omega
  have HC := Lib.hid (fun V => Count_any a N c V hN)
  have G0 := GR.new w 0 0 false 0 0
  have hr0 : ∀ j, j < 2 → _ := fun j _ => frozen_of_row G0.p j
  have r0 := hr0 0 (by omega)
  have r1 := hr0 1 (by omega)
  have x0 := G0.b.frozen
  have x1 := G0.n.frozen
  have x2 := G0.e.frozen
  have c0 := G0.b.cell
  have c1 := G0.n.cell
  have c2 := G0.e.cell
  have d0 := cell_row G0.p (i := 0) (v := .int .i64 0) rfl
  have d1 := cell_row G0.p (i := 1) (v := .int .i64 0) rfl
  have HG := Lib.hid G0
  clear G0 hr0
  have G3 := Lib.hid (GR.new w 0 0 false 0 5)
  go_enter Tryz.func63, Tryz.ntmps63
  go_wp2_with (go_at_call 35; refine (HC.out _).mono ?_; rintro e w1 ⟨rfl, rfl⟩)
  exact bodyPost_ret (results_get rfl _ rfl rfl rfl rfl G3.out) rfl ⟨rfl, G3.out.bel⟩
end
end Cf
end Go.Proofs.YtpibeocngkjolaaGreatDoor

namespace Go.Proofs.YtpibeocngkjolaaGreatDoor
open Go.RowKit Go.Shelf
attribute [local go_sem] Oper.semAt_some
set_option linter.unusedSimpArgs false
set_option linter.unusedVariables false
namespace Cf
section
set_option maxRecDepth 100000
set_option maxHeartbeats 4000000
set_option linter.unusedVariables false
def escB : List UInt8 := [48, 48, 48, 48, 48, 49]
/-- Get's own cells behind the bits were seen. -/
structure GX (B Bs : Nat) (w : World) (S : ByteArray) (V : World) : Prop where
  g : GR B w 0 0 false 0 0 V
  s : Boxed V Bs 9 (.string S)
  t : Tabs V
  b : B + 4 ≤ Bs
theorem GX.below {B Bs : Nat} {w : World} {x : ByteArray} {V V' : World} (h : GX B Bs w x V) (hb : Below V.heap.size V V') : GX B Bs w x V' :=
  ⟨h.g.below hb, h.s.kept (grown_of_below hb none) (by simp), h.t.below hb, h.b⟩
theorem GX.new {w V : World} (x : ByteArray) (hT : Tabs w) (h : GR w.heap.size w 0 0 false 0 0 V) : GX w.heap.size V.heap.size w x (V.alloc (.cells #[.string x] 9)) := by
  have hb : Below V.heap.size V (V.alloc (.cells #[.string x] 9)) := (Below.refl _ V).alloc (Nat.le_refl _) _
  exact ⟨h.below hb, Boxed.new V _ _, hT.below (h.below hb).bel, h.e.lt⟩
/-- the facts that the stores of the results want. -/
structure GF (B : Nat) (V : World) : Prop where
  r0 : V.frozen? ⟨B, 0, none⟩ = false
  r1 : V.frozen? ⟨B, 1, none⟩ = false
  x0 : V.frozen? ⟨B + 1, 0, none⟩ = false
  x1 : V.frozen? ⟨B + 2, 0, none⟩ = false
  x2 : V.frozen? ⟨B + 3, 0, none⟩ = false
  c0 : V.cell? ⟨B + 1, 0, none⟩ = some (.bool false)
  c1 : V.cell? ⟨B + 2, 0, none⟩ = some (.int .i64 0)
  c2 : V.cell? ⟨B + 3, 0, none⟩ = some (.int .i64 0)
  d0 : V.cell? ⟨B, 0, none⟩ = some (.int .i64 0)
  d1 : V.cell? ⟨B, 1, none⟩ = some (.int .i64 0)
theorem GR.facts {B : Nat} {w V : World} (G0 : GR B w 0 0 false 0 0 V) : GF B V :=
  ⟨frozen_of_row G0.p 0, frozen_of_row G0.p 1, G0.b.frozen, G0.n.frozen, G0.e.frozen, G0.b.cell, G0.n.cell, G0.e.cell, cell_row G0.p (i := 0) (v := .int .i64 0) rfl, cell_row G0.p (i := 1) (v := .int .i64 0) rfl⟩
theorem Get_more (a : Option Addr) (N c p : Nat) (f : Nat → Int) (first : Bool) (w : World) (x : List UInt8) (hN : N ≤ 1000000) (hp : p ≤ 8 * N) (hT : Tabs w)
    (HS : Hid (∀ W, Below w.heap.size w W → Calls Tryz.prog 85 #[.slice a N c, .int .i64 p] W fun e w' => e = .returned (sv x) ∧ Below W.heap.size W w')) (hx : x.length < 20) (hs : sameB x escB = true) :
    Calls Tryz.prog 63 #[.slice a N c, .int .i64 p, .bool first] w fun e w' => e = .returned (.tuple #[prV 0 0, .bool false, .int .i64 0, .int .i64 5]) ∧ Below w.heap.size w w' := by
  have G0 := Lib.hid (GR.new w 0 0 false 0 0)
  have HC := Lib.hid (fun V => Count_any a N c V hN)
  have HM := Lib.hid (fun V => same_any x escB V)
  rw [hs] at HM
  have n0 : ¬ (p : Int) < 0 := by omega
  have n1 : ¬ (p : Int) > 8 * (N : Int) := by omega
  have hz : (⟨x.toArray⟩ : ByteArray).size < 20 := hx
  have HNEW := Lib.hid (fun V h => GX.new (V := V) ⟨x.toArray⟩ hT h)
  unfold sv escB at *
  obtain ⟨S, hS⟩ : ∃ S : ByteArray, (⟨x.toArray⟩ : ByteArray) = S := ⟨_, rfl⟩
  rw [hS] at HS hz HM HNEW
  have HSH := Lib.hid hS
  have hz2 : ((S.size : Nat) : Int) < 20 := by omega
  clear hs hx hp hN hT hS hz
  go_enter Tryz.func63, Tryz.ntmps63
  go_wp2_with (first
    | (go_at_call 35; refine (HC.out _).mono ?_; rintro e w1 ⟨rfl, rfl⟩)
    | (go_at_call 85; refine (HS.out _ G0.out.bel).mono ?_; rintro e w2 ⟨rfl, h2⟩; have X0 := Lib.hid (HNEW.out _ (G0.out.below h2)); clear h2)
    | (go_at_call 86; refine (HM.out _).mono ?_; rintro e w3 ⟨rfl, h3⟩; have X1 := Lib.hid (X0.out.below h3); have s0 := X1.out.s.cell; obtain ⟨r0, r1, x0, x1, x2, c0, c1, c2, d0, d1⟩ := X1.out.g.facts; clear h3))
  have G := X1.out.g.set 0 0 false 0 5
  exact bodyPost_ret (results_get rfl _ rfl rfl rfl rfl G) rfl ⟨rfl, G.bel⟩
theorem Get_end (a : Option Addr) (N c p : Nat) (f : Nat → Int) (w : World) (x : List UInt8) (hN : N ≤ 1000000) (hp : p ≤ 8 * N) (hT : Tabs w)
    (HS : Hid (∀ W, Below w.heap.size w W → Calls Tryz.prog 85 #[.slice a N c, .int .i64 p] W fun e w' => e = .returned (sv x) ∧ Below W.heap.size W w')) (hs : sameB x escB = false) (he : ∃ y, x = [49, 48] ++ y) :
    Calls Tryz.prog 63 #[.slice a N c, .int .i64 p, .bool false] w fun e w' => e = .returned (.tuple #[prV 0 0, .bool true, .int .i64 2, .int .i64 0]) ∧ Below w.heap.size w w' := by
  have G0 := Lib.hid (GR.new w 0 0 false 0 0)
  have HC := Lib.hid (fun V => Count_any a N c V hN)
  have HM := Lib.hid (fun V => same_any x escB V)
  rw [hs] at HM
  have n0 : ¬ (p : Int) < 0 := by omega
  have n1 : ¬ (p : Int) > 8 * (N : Int) := by omega
  obtain ⟨y, hy⟩ := he
  have HPx := Lib.hid hy
  have HHP := Lib.hid (fun V => Tryz.strings_HasPrefix ⟨x.toArray⟩ ⟨#[49, 48]⟩ V)
  have ehp : Lib.hasPrefix (⟨x.toArray⟩ : ByteArray).data.toList (⟨#[49, 48]⟩ : ByteArray).data.toList = true := by rw [hy]; simp [Lib.hasPrefix]
  rw [ehp] at HHP
  clear ehp
  have HNEW := Lib.hid (fun V h => GX.new (V := V) ⟨x.toArray⟩ hT h)
  unfold sv escB at *
  obtain ⟨S, hS⟩ : ∃ S : ByteArray, (⟨x.toArray⟩ : ByteArray) = S := ⟨_, rfl⟩
  rw [hS] at HS HM HNEW HHP
  have HSH := Lib.hid hS
  clear hs hp hN hT hS hy
  go_enter Tryz.func63, Tryz.ntmps63
  go_wp2_with (first
    | (go_at_call 35; refine (HC.out _).mono ?_; rintro e w1 ⟨rfl, rfl⟩)
    | (go_at_call 85; refine (HS.out _ G0.out.bel).mono ?_; rintro e w2 ⟨rfl, h2⟩; have X0 := Lib.hid (HNEW.out _ (G0.out.below h2)); clear h2)
    | (go_at_call 86; refine (HM.out _).mono ?_; rintro e w3 ⟨rfl, h3⟩; have X1 := Lib.hid (X0.out.below h3); have s0 := X1.out.s.cell; obtain ⟨r0, r1, x0, x1, x2, c0, c1, c2, d0, d1⟩ := X1.out.g.facts; clear h3)
    | (go_at_call 88; refine (HHP.out _).mono ?_; rintro e w4 ⟨rfl, rfl⟩))
  have G := X1.out.g.set 0 0 true 2 0
  exact bodyPost_ret (results_get rfl _ rfl rfl rfl rfl G) rfl ⟨rfl, G.bel⟩
/-- the level of an escape. -/
def lv8 (L : List Bool) : Int := IntKind.i8.wrap (numL 0 (L.drop 12))
theorem i8_in (x : Int) : -128 ≤ IntKind.i8.wrap x ∧ IntKind.i8.wrap x < 128 := by
  have e1 : ((2 : Int) ^ IntKind.i8.bits) = 256 := rfl
  have e2 : ((2 : Int) ^ (IntKind.i8.bits - 1)) = 128 := rfl
  have e3 : IntKind.i8.signed = true := rfl
  simp only [IntKind.wrap, e1, e2, e3, Bool.true_and, decide_eq_true_eq]
  split <;> omega
theorem lv8_in (L : List Bool) (h : L.length = 20) : IntKind.i64.wrap (lv8 L) = lv8 L := IntWalk.i64_in _ (by have := i8_in (numL 0 (L.drop 12)); unfold lv8; omega)
theorem Get_esc (a : Option Addr) (N c p : Nat) (f : Nat → Int) (first : Bool) (w : World) (L : List Bool) (hN : N ≤ 1000000) (hp : p ≤ 8 * N) (hT : Tabs w)
    (HS : Hid (∀ W, Below w.heap.size w W → Calls Tryz.prog 85 #[.slice a N c, .int .i64 p] W fun e w' => e = .returned (sv (cs L)) ∧ Below W.heap.size W w')) (hx : L.length = 20) (hs : sameB (cs L) escB = true) :
    Calls Tryz.prog 63 #[.slice a N c, .int .i64 p, .bool first] w fun e w' => e = .returned (.tuple (if lv8 L = 0 ∨ lv8 L = -128 then #[prV 0 0, .bool false, .int .i64 0, .int .i64 10] else #[prV (numL 0 ((L.take 12).drop 6)) (lv8 L), .bool false, .int .i64 20, .int .i64 0])) ∧ Below w.heap.size w w' := by
  have G0 := Lib.hid (GR.new w 0 0 false 0 0)
  have HC := Lib.hid (fun V => Count_any a N c V hN)
  have HM := Lib.hid (fun V => same_any (cs L) escB V)
  rw [hs] at HM
  have n0 : ¬ (p : Int) < 0 := by omega
  have n1 : ¬ (p : Int) > 8 * (N : Int) := by omega
  have hz : (⟨(cs L).toArray⟩ : ByteArray).size = 20 := by rw [ba_size, cs_len, hx]
  have HN1 := Lib.hid (fun V => number_any (L.drop 12) (by intro h; have := congrArg List.length h; simp [hx] at this) (by simp [hx]) V)
  have HN2 := Lib.hid (fun V => number_any ((L.take 12).drop 6) (by intro h; have := congrArg List.length h; simp [hx] at this) (by simp [hx]) V)
  have ex1 : (⟨(cs L).toArray⟩ : ByteArray).extract 12 20 = ⟨(cs (L.drop 12)).toArray⟩ := by
    rw [ba_extract, List.take_of_length_le (by simp [cs, hx])]
    simp [cs]
  have ex2 : (⟨(cs L).toArray⟩ : ByteArray).extract 6 12 = ⟨(cs ((L.take 12).drop 6)).toArray⟩ := by
    rw [ba_extract]
    simp [cs]
  have hlv : IntKind.i8.wrap (numL 0 (L.drop 12)) = lv8 L := rfl
  have hlw : IntKind.i64.wrap (lv8 L) = lv8 L := lv8_in L hx
  have HNEW := Lib.hid (fun V h => GX.new (V := V) ⟨(cs L).toArray⟩ hT h)
  unfold sv escB at *
  obtain ⟨S, hS⟩ : ∃ S : ByteArray, (⟨(cs L).toArray⟩ : ByteArray) = S := ⟨_, rfl⟩
  rw [hS] at HS hz HM HNEW ex1 ex2
  have HSH := Lib.hid hS
  have hz2 : ((S.size : Nat) : Int) = 20 := by omega
  clear hs hx hp hN hT hS
  generalize lv8 L = Y at *
  generalize (numL 0 (L.drop 12) : Int) = X at *
  generalize (numL 0 ((L.take 12).drop 6) : Int) = R at *
  generalize (⟨(cs (L.drop 12)).toArray⟩ : ByteArray) = S1 at *
  generalize (⟨(cs ((L.take 12).drop 6)).toArray⟩ : ByteArray) = S2 at *
  by_cases h0 : Y = 0 ∨ Y = -128
  · rw [if_pos h0]
    rcases h0 with rfl | rfl
    · go_enter Tryz.func63, Tryz.ntmps63
      go_wp2_with (first
        | (go_at_call 35; refine (HC.out _).mono ?_; rintro e w1 ⟨rfl, rfl⟩)
        | (go_at_call 85; refine (HS.out _ G0.out.bel).mono ?_; rintro e w2 ⟨rfl, h2⟩; have X0 := Lib.hid (HNEW.out _ (G0.out.below h2)); clear h2)
        | (go_at_call_of 87 S1; refine (HN1.out _).mono ?_; rintro e w4 ⟨rfl, h4⟩; have X1 := Lib.hid (X1.out.below h4); have s0 := X1.out.s.cell; obtain ⟨r0, r1, x0, x1, x2, c0, c1, c2, d0, d1⟩ := X1.out.g.facts; clear h4)
        | (go_at_call_of 87 S2; refine (HN2.out _).mono ?_; rintro e w5 ⟨rfl, h5⟩; have X1 := Lib.hid (X1.out.below h5); have s0 := X1.out.s.cell; obtain ⟨r0, r1, x0, x1, x2, c0, c1, c2, d0, d1⟩ := X1.out.g.facts; clear h5)
        | (go_at_call 86; refine (HM.out _).mono ?_; rintro e w3 ⟨rfl, h3⟩; have X1 := Lib.hid (X0.out.below h3); have s0 := X1.out.s.cell; obtain ⟨r0, r1, x0, x1, x2, c0, c1, c2, d0, d1⟩ := X1.out.g.facts; clear h3))
      have G := X1.out.g.set 0 0 false 0 10
      exact bodyPost_ret (results_get rfl _ rfl rfl rfl rfl G) rfl ⟨rfl, G.bel⟩
    · go_enter Tryz.func63, Tryz.ntmps63
      go_wp2_with (first
        | (go_at_call 35; refine (HC.out _).mono ?_; rintro e w1 ⟨rfl, rfl⟩)
        | (go_at_call 85; refine (HS.out _ G0.out.bel).mono ?_; rintro e w2 ⟨rfl, h2⟩; have X0 := Lib.hid (HNEW.out _ (G0.out.below h2)); clear h2)
        | (go_at_call_of 87 S1; refine (HN1.out _).mono ?_; rintro e w4 ⟨rfl, h4⟩; have X1 := Lib.hid (X1.out.below h4); have s0 := X1.out.s.cell; obtain ⟨r0, r1, x0, x1, x2, c0, c1, c2, d0, d1⟩ := X1.out.g.facts; clear h4)
        | (go_at_call_of 87 S2; refine (HN2.out _).mono ?_; rintro e w5 ⟨rfl, h5⟩; have X1 := Lib.hid (X1.out.below h5); have s0 := X1.out.s.cell; obtain ⟨r0, r1, x0, x1, x2, c0, c1, c2, d0, d1⟩ := X1.out.g.facts; clear h5)
        | (go_at_call 86; refine (HM.out _).mono ?_; rintro e w3 ⟨rfl, h3⟩; have X1 := Lib.hid (X0.out.below h3); have s0 := X1.out.s.cell; obtain ⟨r0, r1, x0, x1, x2, c0, c1, c2, d0, d1⟩ := X1.out.g.facts; clear h3))
      have G := X1.out.g.set 0 0 false 0 10
      exact bodyPost_ret (results_get rfl _ rfl rfl rfl rfl G) rfl ⟨rfl, G.bel⟩
  · rw [if_neg h0]
    have y0 : (Y == 0) = false := by simp; omega
    have y1 : (Y == -128) = false := by simp; omega
    have z0 : ¬ Y = 0 := by omega
    have z1 : ¬ Y = -128 := by omega
    clear h0
    go_enter Tryz.func63, Tryz.ntmps63
    go_wp2_with (first
      | (go_at_call 35; refine (HC.out _).mono ?_; rintro e w1 ⟨rfl, rfl⟩)
      | (go_at_call 85; refine (HS.out _ G0.out.bel).mono ?_; rintro e w2 ⟨rfl, h2⟩; have X0 := Lib.hid (HNEW.out _ (G0.out.below h2)); clear h2)
      | (go_at_call_of 87 S1; refine (HN1.out _).mono ?_; rintro e w4 ⟨rfl, h4⟩; have X1 := Lib.hid (X1.out.below h4); have s0 := X1.out.s.cell; obtain ⟨r0, r1, x0, x1, x2, c0, c1, c2, d0, d1⟩ := X1.out.g.facts; clear h4)
      | (go_at_call_of 87 S2; refine (HN2.out _).mono ?_; rintro e w5 ⟨rfl, h5⟩; have X1 := Lib.hid (X1.out.below h5); have s0 := X1.out.s.cell; obtain ⟨r0, r1, x0, x1, x2, c0, c1, c2, d0, d1⟩ := X1.out.g.facts; clear h5)
      | (go_at_call 86; refine (HM.out _).mono ?_; rintro e w3 ⟨rfl, h3⟩; have X1 := Lib.hid (X0.out.below h3); have s0 := X1.out.s.cell; obtain ⟨r0, r1, x0, x1, x2, c0, c1, c2, d0, d1⟩ := X1.out.g.facts; clear h3))
    have G := X1.out.g.set R Y false 20 0
    exact bodyPost_ret (results_get rfl _ rfl rfl rfl rfl G) rfl ⟨rfl, G.bel⟩
end
end Cf
end Go.Proofs.YtpibeocngkjolaaGreatDoor

namespace Go.Proofs.YtpibeocngkjolaaGreatDoor
set_option linter.unusedSimpArgs false
set_option linter.unusedVariables false
namespace Cf
theorem tab_apart : ∀ first, ∀ a ∈ tab first, ∀ b ∈ tab first, sameB (cs a.code) (cs b.code) = true → a = b := by decide +kernel
theorem tab_esc : ∀ first, ∀ a ∈ tab first, sameB (cs a.code) escB = false := by decide +kernel
theorem tab_end : ∀ a ∈ tab false, sameB (cs a.code) [49, 48] = false := by decide +kernel
theorem esc_end : sameB escB [49, 48] = false := by decide +kernel
theorem same_pre {x a : List UInt8} (h : sameB x a = true) (hl : a.length ≤ x.length) : a <+: x := by
  unfold sameB at h
  rw [Nat.min_eq_right hl, List.take_length] at h
  have e : x.take a.length = a := by simpa using h
  rw [← e]
  exact List.take_prefix _ _
theorem pre_same {a b : List UInt8} (h : a <+: b) : sameB a b = true := by
  obtain ⟨t, rfl⟩ := h
  simp [sameB]
theorem same_comm (a b : List UInt8) : sameB a b = sameB b a := by
  unfold sameB
  rw [Nat.min_comm b.length a.length]
  exact Bool.eq_iff_iff.2 (by rw [beq_iff_eq, beq_iff_eq]; exact ⟨Eq.symm, Eq.symm⟩)
theorem same_two {x a b : List UInt8} (ha : sameB x a = true) (hb : sameB x b = true) (la : a.length ≤ x.length) (lb : b.length ≤ x.length) : sameB a b = true := by
  have h1 := same_pre ha la
  have h2 := same_pre hb lb
  rcases Nat.le_total a.length b.length with h | h
  · exact pre_same (List.prefix_of_prefix_length_le h1 h2 h)
  · rw [same_comm]
    exact pre_same (List.prefix_of_prefix_length_le h2 h1 h)
/-- one entry alone stands at the bits' beginning. -/
theorem tab_one (first : Bool) {x : List UInt8} {a b : Ent} (ha : a ∈ tab first) (hb : b ∈ tab first) (h1 : sameB x (cs a.code) = true) (h2 : sameB x (cs b.code) = true) (l1 : a.code.length ≤ x.length) (l2 : b.code.length ≤ x.length) : a = b :=
  tab_apart first a ha b hb (same_two h1 h2 (by simpa [cs] using l1) (by simpa [cs] using l2))
end Cf
end Go.Proofs.YtpibeocngkjolaaGreatDoor
