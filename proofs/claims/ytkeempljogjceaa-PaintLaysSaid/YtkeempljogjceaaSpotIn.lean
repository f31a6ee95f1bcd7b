/- A parameter that is a struct of three numbers. -/
import Derived.Deep.Strs
import Derived.WideShapes
import Derived.Test.YtkeempljogjceaaKit
namespace Go.Proofs.Ytkeempljogjceaa
open Go.RowKit Go.ChangeShapes Go.WideShapes
theorem open_three {H : Type} {enc : TypeId × Value → H} {P : Program} {w : World} {base : Nat} {spare : Nat → Bool} {held : Bool} {t : TypeId} {f0 f1 f2 : Field} {fuel : Nat} {x : DataW H × List MemPlace} {cs : Array Value}
    (ht : P.underlying t = some (.struct #[f0, f1, f2])) (hc : P.cellsOf t = 3) (o0 : f0.offset = 0) (o1 : f1.offset = 1) (o2 : f2.offset = 2) (c0 : P.cellsOf f0.type = 1) (c1 : P.cellsOf f1.type = 1) (c2 : P.cellsOf f2.type = 1)
    (i0 : P.underlying f0.type = some (.int .i64)) (i1 : P.underlying f1.type = some (.int .i64)) (i2 : P.underlying f2.type = some (.int .i64))
    (h : DataW.trod enc P w base spare held fuel t (Value.agg cs).cells.toList = some x) : ∃ a b c, cs = #[.int .i64 a, .int .i64 b, .int .i64 c] := by
  obtain ⟨y0, y1, y2, m, _, hl, h0, h1, h2⟩ := Go.Deep.trod_struct3 ht h
  obtain ⟨n0, g0, _⟩ := DataW.trod_int i0 h0
  obtain ⟨n1, g1, _⟩ := DataW.trod_int i1 h1
  obtain ⟨n2, g2, _⟩ := DataW.trod_int i2 h2
  rw [o0, c0] at g0
  rw [o1, c1] at g1
  rw [o2, c2] at g2
  rw [hc] at hl
  refine ⟨n0, n1, n2, ?_⟩
  have he : (Value.agg cs).cells = cs := rfl
  rw [he] at hl g0 g1 g2
  apply Array.toList_inj.1
  match hcs : cs.toList, hl with
  | [u0, u1, u2], _ =>
    rw [hcs] at g0 g1 g2
    simp at g0 g1 g2
    rw [g0, g1, g2]
end Go.Proofs.Ytkeempljogjceaa
