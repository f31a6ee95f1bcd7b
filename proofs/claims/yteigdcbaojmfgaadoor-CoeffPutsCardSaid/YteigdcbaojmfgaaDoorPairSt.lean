/- A parameter that is a struct of two numbers. -/
import Derived.Deep.Strs
import Derived.WideShapes
import Derived.Test.YteigdcbaojmfgaaDoorKit
namespace Go.Proofs.YteigdcbaojmfgaaDoor
open Go.RowKit Go.ChangeShapes Go.WideShapes
theorem open_two {H : Type} {enc : TypeId × Value → H} {P : Program} {w : World} {base : Nat} {spare : Nat → Bool} {held : Bool} {t : TypeId} {f0 f1 : Field} {fuel : Nat} {x : DataW H × List MemPlace} {cs : Array Value}
    (ht : P.underlying t = some (.struct #[f0, f1])) (hc : P.cellsOf t = 2) (o0 : f0.offset = 0) (o1 : f1.offset = 1) (c0 : P.cellsOf f0.type = 1) (c1 : P.cellsOf f1.type = 1)
    (i0 : P.underlying f0.type = some (.int .i64)) (i1 : P.underlying f1.type = some (.int .i64))
    (h : DataW.trod enc P w base spare held fuel t (Value.agg cs).cells.toList = some x) : ∃ a b, cs = #[.int .i64 a, .int .i64 b] := by
  obtain ⟨y0, y1, m, _, hl, h0, h1⟩ := trod_struct2 ht h
  obtain ⟨n0, g0, _⟩ := DataW.trod_int i0 h0
  obtain ⟨n1, g1, _⟩ := DataW.trod_int i1 h1
  rw [o0, c0] at g0
  rw [o1, c1] at g1
  rw [hc] at hl
  refine ⟨n0, n1, ?_⟩
  have he : (Value.agg cs).cells = cs := rfl
  rw [he] at hl g0 g1
  apply Array.toList_inj.1
  match hcs : cs.toList, hl with
  | [u0, u1], _ =>
    rw [hcs] at g0 g1
    simp at g0 g1
    rw [g0, g1]
end Go.Proofs.YteigdcbaojmfgaaDoor
