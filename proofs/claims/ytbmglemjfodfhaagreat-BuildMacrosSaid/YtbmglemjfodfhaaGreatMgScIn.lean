/- Small words that all walks of this seat share: worlds one behind the other; slices that read as lists of numbers. | Pick: one of the numbers from 0 on below n. | A parameter that is a struct of four numbers and a bool. | A parameter that is a struct of three numbers. -/
import Derived.BigQuiet
import Derived.Deep.QuietTactic
import Derived.Deep.Strs
import Derived.Laws.EntriesVeiled
import Derived.Lib.Hide
import Derived.Outline
import Derived.Test.YtbmglemjfodfhaaGreatProg
import Derived.WalkKit
import Derived.WalkLawsBesides
import Derived.WalkSpells
import Derived.WideShapes
set_option linter.unusedVariables false
set_option linter.unusedSimpArgs false

namespace Go.Proofs.YtbmglemjfodfhaaGreat
open Go.RowKit

theorem chain {a b c : World} (h : Below a.heap.size a b) (k : Below b.heap.size b c) : Below a.heap.size a c := h.trans (k.mono h.size)
theorem ret_int {k : IntKind} {a b : Int} (h : a = b) : Ending.returned (.int k a) = .returned (.int k b) := by rw [h]
theorem ret_bool {a b : Bool} (h : a = b) : Ending.returned (.bool a) = .returned (.bool b) := by rw [h]
theorem ret_two {k j : IntKind} {a b c d : Int} (h : a = b) (g : c = d) : Ending.returned (.tuple #[.int k a, .int j c]) = .returned (.tuple #[.int k b, .int j d]) := by rw [h, g]
theorem bcell {W w1 : World} (hb : Below W.heap.size W w1) : (∀ b o, b < W.heap.size → w1.cell? ⟨b, o, none⟩ = W.cell? ⟨b, o, none⟩) ∧ (∀ b o, b < W.heap.size → w1.frozen? ⟨b, o, none⟩ = W.frozen? ⟨b, o, none⟩) :=
  ⟨fun b o h => hb.cell (p := ⟨b, o, none⟩) h, fun b o h => hb.frozen (p := ⟨b, o, none⟩) h⟩
theorem below_same (w : World) : Below w.heap.size w w := Below.refl _ _
theorem below_drewN {B : Nat} {a w : World} (h : Below B a w) (n : Nat) : Below B a (w.drewN n) := ⟨h.os, h.tape, h.output, h.size, h.block⟩

/-- what is known of a slice of integers that came in: it is nil; or it leads to a row of 'cap' cells, the numbers 'zs' (the first 'len' are its elements), each fitting its kind. -/
def IsRow (k : IntKind) (w : World) (a : Option Addr) (len cap : Nat) (zs : List Int) : Prop :=
  (a = none ∧ len = 0 ∧ cap = 0 ∧ zs = []) ∨
  ∃ x, a = some x ∧ len ≤ cap ∧ cap ≤ maxLen ∧ zs.length = cap ∧ (∀ i, i < zs.length → w.cell? (x.add i) = some (.int k (zs.getD i 0))) ∧ ∀ n ∈ zs, (Lit.int k n).wf = true
end Go.Proofs.YtbmglemjfodfhaaGreat

namespace Go.Proofs.YtbmglemjfodfhaaGreat
open Go.RowKit

theorem tmod_facts (x n : Int) (h : 0 < n) : (-n < x.tmod n ∧ x.tmod n < n) ∧ (0 ≤ x → x.tmod n = x % n) ∧ (x < 0 → x.tmod n ≤ 0) ∧ (x.tmod n < 0 → x.tmod n + n = x % n) ∧ (¬ x.tmod n < 0 → x.tmod n = x % n) := by
  have h1 := Int.tmod_lt_of_pos x h
  have h2 := Int.lt_tmod_of_pos x h
  have e := @Int.tmod_eq_emod x n
  have m1 := Int.emod_nonneg x (show n ≠ 0 by omega)
  have m2 := Int.emod_lt_of_pos x h
  by_cases hx : 0 ≤ x
  · rw [Int.tmod_eq_emod_of_nonneg hx] at *; omega
  · by_cases hd : n ∣ x
    · have := Int.emod_eq_zero_of_dvd hd
      have := Int.tmod_eq_zero_of_dvd hd
      omega
    · simp [hx, hd] at e
      omega

theorem Pick_any (x n : Int) (w : World) (h : 0 < n) (h2 : n ≤ 1000000000000) :
    Calls Tryz.prog 31 #[.int .i64 x, .int .i64 n] w fun e w' => e = .returned (.int .i64 (x % n)) ∧ w = w' := by
  obtain ⟨f0, f1, f2, f3, f4⟩ := tmod_facts x n h
  have F1 := Lib.hid f1
  have F3 := Lib.hid f3
  have F4 := Lib.hid f4
  clear f1 f3 f4
  have hnz : (n == 0) = false := by simp; omega
  have m1 := Int.emod_nonneg x (show n ≠ 0 by omega)
  by_cases hx : 0 ≤ x
  · go_enter Tryz.func31, Tryz.ntmps31
    go_wp2
    go_ret
    exact ⟨rfl, rfl⟩
  · have hx' : x < 0 := by omega
    have f2' := f2 hx'
    clear hx f2
    by_cases hc : x.tmod n < 0
    · have HF := F3.out hc
      go_enter Tryz.func31, Tryz.ntmps31
      go_wp2
      go_ret
      exact ⟨rfl, rfl⟩
    · have HF := F4.out hc
      go_enter Tryz.func31, Tryz.ntmps31
      go_wp2
      go_ret
      exact ⟨rfl, rfl⟩
end Go.Proofs.YtbmglemjfodfhaaGreat

namespace Go.Proofs.YtbmglemjfodfhaaGreat
open Go.RowKit Go.ChangeShapes Go.WideShapes
theorem open_scenes {H : Type} {enc : TypeId × Value → H} {P : Program} {w : World} {base : Nat} {spare : Nat → Bool} {held : Bool} {t : TypeId} {f0 f1 f2 f3 f4 : Field} {fuel : Nat} {x : DataW H × List MemPlace} {cs : Array Value}
    (ht : P.underlying t = some (.struct #[f0, f1, f2, f3, f4])) (hc : P.cellsOf t = 5) (o : f0.offset = 0 ∧ f1.offset = 1 ∧ f2.offset = 2 ∧ f3.offset = 3 ∧ f4.offset = 4)
    (c : P.cellsOf f0.type = 1 ∧ P.cellsOf f1.type = 1 ∧ P.cellsOf f2.type = 1 ∧ P.cellsOf f3.type = 1 ∧ P.cellsOf f4.type = 1)
    (i0 : P.underlying f0.type = some (.int .i64)) (i1 : P.underlying f1.type = some (.int .i64)) (i2 : P.underlying f2.type = some (.int .i64)) (i3 : P.underlying f3.type = some (.int .i64)) (i4 : P.underlying f4.type = some .bool)
    (h : DataW.trod enc P w base spare held fuel t (Value.agg cs).cells.toList = some x) : ∃ a b l m n, cs = #[.int .i64 a, .int .i64 b, .int .i64 l, .int .i64 m, .bool n] := by
  obtain ⟨xs, k, _, _, hl, hxl, hf⟩ := DataW.trod_struct ht h
  have hcs : (Value.agg cs).cells = cs := rfl
  rw [hcs] at hl hf
  rw [hc] at hl
  obtain ⟨n0, n1, n2, n3, n4⟩ := o
  obtain ⟨k0, k1, k2, k3, k4⟩ := c
  match hq : cs.toList, hl with
  | [v0, v1, v2, v3, v4], _ =>
    match xs, hxl with
    | [y0, y1, y2, y3, y4], _ =>
      have t0 := hf 0 f0 rfl
      have t1 := hf 1 f1 rfl
      have t2 := hf 2 f2 rfl
      have t3 := hf 3 f3 rfl
      have t4 := hf 4 f4 rfl
      rw [hq] at t0 t1 t2 t3 t4
      simp [n0, n1, n2, n3, n4, k0, k1, k2, k3, k4] at t0 t1 t2 t3 t4
      obtain ⟨a0, e0, _⟩ := DataW.trod_int i0 t0
      obtain ⟨a1, e1, _⟩ := DataW.trod_int i1 t1
      obtain ⟨a2, e2, _⟩ := DataW.trod_int i2 t2
      obtain ⟨a3, e3, _⟩ := DataW.trod_int i3 t3
      obtain ⟨a4, e4, _⟩ := DataW.trod_bool i4 t4
      refine ⟨a0, a1, a2, a3, a4, ?_⟩
      have : cs = #[v0, v1, v2, v3, v4] := Array.toList_inj.1 hq
      rw [this]
      simp at e0 e1 e2 e3 e4
      rw [e0, e1, e2, e3, e4]
end Go.Proofs.YtbmglemjfodfhaaGreat

namespace Go.Proofs.YtbmglemjfodfhaaGreat
open Go.RowKit Go.ChangeShapes Go.WideShapes
theorem open_three {H : Type} {enc : TypeId × Value → H} {P : Program} {w : World} {base : Nat} {spare : Nat → Bool} {held : Bool} {t : TypeId} {f0 f1 f2 : Field} {fuel : Nat} {x : DataW H × List MemPlace} {cs : Array Value}
    (ht : P.underlying t = some (.struct #[f0, f1, f2])) (hc : P.cellsOf t = 3) (o0 : f0.offset = 0) (o1 : f1.offset = 1) (o2 : f2.offset = 2) (c0 : P.cellsOf f0.type = 1) (c1 : P.cellsOf f1.type = 1) (c2 : P.cellsOf f2.type = 1)
    (i0 : P.underlying f0.type = some (.int .i64)) (i1 : P.underlying f1.type = some (.int .i64)) (i2 : P.underlying f2.type = some (.int .i64))
    (h : DataW.trod enc P w base spare held fuel t (Value.agg cs).cells.toList = some x) : ∃ a b c, cs = #[.int .i64 a, .int .i64 b, .int .i64 c] := by
  obtain ⟨y0, y1, y2, m, _, hl, h0, h1, h2⟩ := Go.Deep.trod_struct3 ht h
  obtain ⟨n0, g0, _⟩ := DataW.trod_int i0 h0
  obtain ⟨n1, g1, _⟩ := DataW.trod_int i1 h1
  obtain ⟨n2, g2, _⟩ := DataW.trod_int i2 h2
  rw [o0, c0] at g0
  rw [o1, c1] at g1
  rw [o2, c2] at g2
  rw [hc] at hl
  refine ⟨n0, n1, n2, ?_⟩
  have he : (Value.agg cs).cells = cs := rfl
  rw [he] at hl g0 g1 g2
  apply Array.toList_inj.1
  match hcs : cs.toList, hl with
  | [u0, u1, u2], _ =>
    rw [hcs] at g0 g1 g2
    simp at g0 g1 g2
    rw [g0, g1, g2]
end Go.Proofs.YtbmglemjfodfhaaGreat
