/- A parameter that is a struct of four numbers and a bool. -/
import Derived.Test.YtbmglemjfodfhaaGreatMgPick
import Derived.Deep.Strs
import Derived.WideShapes
set_option linter.unusedVariables false
set_option linter.unusedSimpArgs false
namespace Go.Proofs.YtbmglemjfodfhaaGreat
open Go.RowKit Go.ChangeShapes Go.WideShapes
theorem open_scenes {H : Type} {enc : TypeId × Value → H} {P : Program} {w : World} {base : Nat} {spare : Nat → Bool} {held : Bool} {t : TypeId} {f0 f1 f2 f3 f4 : Field} {fuel : Nat} {x : DataW H × List MemPlace} {cs : Array Value}
    (ht : P.underlying t = some (.struct #[f0, f1, f2, f3, f4])) (hc : P.cellsOf t = 5) (o : f0.offset = 0 ∧ f1.offset = 1 ∧ f2.offset = 2 ∧ f3.offset = 3 ∧ f4.offset = 4)
    (c : P.cellsOf f0.type = 1 ∧ P.cellsOf f1.type = 1 ∧ P.cellsOf f2.type = 1 ∧ P.cellsOf f3.type = 1 ∧ P.cellsOf f4.type = 1)
    (i0 : P.underlying f0.type = some (.int .i64)) (i1 : P.underlying f1.type = some (.int .i64)) (i2 : P.underlying f2.type = some (.int .i64)) (i3 : P.underlying f3.type = some (.int .i64)) (i4 : P.underlying f4.type = some .bool)
    (h : DataW.trod enc P w base spare held fuel t (Value.agg cs).cells.toList = some x) : ∃ a b l m n, cs = #[.int .i64 a, .int .i64 b, .int .i64 l, .int .i64 m, .bool n] := by
  obtain ⟨xs, k, _, _, hl, hxl, hf⟩ := DataW.trod_struct ht h
  have hcs : (Value.agg cs).cells = cs := rfl
  rw [hcs] at hl hf
  rw [hc] at hl
  obtain ⟨n0, n1, n2, n3, n4⟩ := o
  obtain ⟨k0, k1, k2, k3, k4⟩ := c
  match hq : cs.toList, hl with
  | [v0, v1, v2, v3, v4], _ =>
    match xs, hxl with
    | [y0, y1, y2, y3, y4], _ =>
      have t0 := hf 0 f0 rfl
      have t1 := hf 1 f1 rfl
      have t2 := hf 2 f2 rfl
      have t3 := hf 3 f3 rfl
      have t4 := hf 4 f4 rfl
      rw [hq] at t0 t1 t2 t3 t4
      simp [n0, n1, n2, n3, n4, k0, k1, k2, k3, k4] at t0 t1 t2 t3 t4
      obtain ⟨a0, e0, _⟩ := DataW.trod_int i0 t0
      obtain ⟨a1, e1, _⟩ := DataW.trod_int i1 t1
      obtain ⟨a2, e2, _⟩ := DataW.trod_int i2 t2
      obtain ⟨a3, e3, _⟩ := DataW.trod_int i3 t3
      obtain ⟨a4, e4, _⟩ := DataW.trod_bool i4 t4
      refine ⟨a0, a1, a2, a3, a4, ?_⟩
      have : cs = #[v0, v1, v2, v3, v4] := Array.toList_inj.1 hq
      rw [this]
      simp at e0 e1 e2 e3 e4
      rw [e0, e1, e2, e3, e4]
end Go.Proofs.YtbmglemjfodfhaaGreat
