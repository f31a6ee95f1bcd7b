/- Whole arrays out of rows; an array's element at an index that is a letter. -/
import Derived.Test.YtngffhpkjekopaaMem
import Derived.DeepKeys
namespace Go.Proofs.Ytngffhpkjekopaa
open Go.RowKit
set_option linter.unusedSimpArgs false
set_option linter.unusedVariables false

/-- the first n numbers, as cells. -/
def rowOf (k : IntKind) (n : Nat) (f : Nat → Int) : Array Value := ((List.range n).map fun i => Value.int k (f i)).toArray
theorem rowOf_size (k : IntKind) (n : Nat) (f : Nat → Int) : (rowOf k n f).size = n := by simp [rowOf]
theorem rowOf_get (k : IntKind) (n : Nat) (f : Nat → Int) (i : Nat) (hi : i < n) : (rowOf k n f)[i]? = some (.int k (f i)) := by simp [rowOf, hi]
theorem run_loadVar_arr {P : Program} {w : World} {k : IntKind} {g n m : Nat} {f : Nat → Int} {ty e : TypeId} (h : Arr w k g n f) (hu : P.underlying ty = some (.array m e)) (hi : (P.info? ty).map (·.size) = some n) :
    (loadVar ty ⟨g, 0, none⟩).run P w = .ok (.agg (rowOf k n f)) w := by
  have hl : (loadCells ⟨g, 0, none⟩ (rowOf k n f).toList.length).run P w = .ok (rowOf k n f).toList.toArray w :=
    run_loadCells_list (P := P) w ⟨g, 0, none⟩ (rowOf k n f).toList (fun j v hv => by
      have hadd : (⟨g, 0, none⟩ : Addr).add j = ⟨g, j, none⟩ := by unfold Addr.add; split <;> simp_all
      have hj : j < n := by
        have := (List.getElem?_eq_some_iff.1 hv).1
        simpa [rowOf] using this
      have e1 := rowOf_get k n f j hj
      rw [hadd, (h j hj).1]
      exact e1.symm.trans (by simpa using hv))
  cases hq : P.info? ty with
  | none => simp [hq] at hi
  | some i =>
    have hs : i.size = n := by simpa [hq] using hi
    have hagg : (isAgg ty).run P w = .ok true w := by
      unfold isAgg
      rw [Sem.run_bind, run_underlying hu w]
      rfl
    simp only [Array.length_toList, Array.toArray_toList, rowOf_size] at hl
    simp [loadVar, Sem.run_bind, hagg, sizeOf, typeInfo, hq, hs, hl]
theorem wpList_load_arr {P : Program} {ops : Array Oper} {rest : List Oper} {o : Oper} {a : Act} {w : World} {Q : Exit → Act → World → Prop} (hgd : o.guard = none) (ty : TypeId) (x : Operand) (ho : o.op = .load ty x)
    {k : IntKind} {g n m : Nat} {f : Nat → Int} {e : TypeId} (hx : a.eval x = .pointer (some ⟨g, 0, none⟩)) (h : Arr w k g n f) (hu : P.underlying ty = some (.array m e)) (hi : (P.info? ty).map (·.size) = some n)
    (hK : wpList P ops Q rest (a.put o.dst (.agg (rowOf k n f))) w) : wpList P ops Q (o :: rest) a w :=
  wpList_plain hgd fun _ hKK => by
    unfold Oper.wp execOp
    simp only [ho, hx, Instr.loadAt, Instr.sureAddr, Sem.run_bind, Sem.run_pure, Result.andThen_ok, run_loadVar_arr h hu hi]
    exact hKK _ _ hK
theorem run_index_row {P : Program} (w : World) {k : IntKind} {n : Nat} {f : Nat → Int} {ty e : TypeId} {i : TypeInfo} (hu : P.underlying ty = some (.array n e)) (he : P.underlying e = some (.int k)) (hi : P.info? e = some i) (h1 : i.size = 1) (kk : IntKind) (j : Nat) (hj : j < n) :
    (Instr.index ty (.agg (rowOf k n f)) (.int kk (j : Int))).run P w = .ok (.int k (f j)) w := by
  have hagg : (isAgg e).run P w = .ok false w := by
    unfold isAgg
    rw [Sem.run_bind, run_underlying he w]
    rfl
  have hs : (sizeOf e).run P w = .ok 1 w := by simp [sizeOf, typeInfo, hi, h1]
  have hp : (part e (rowOf k n f) j).run P w = .ok (.int k (f j)) w := by
    unfold part
    rw [Sem.run_bind, hagg]
    simp [rowOf_get k n f j hj]
  simp only [Instr.index, asIntOf, Sem.run_bind, Sem.run_pure, Result.andThen_ok, run_underlying hu w]
  rw [if_pos (by omega)]
  simp only [Sem.run_bind, hs, Result.andThen_ok, Int.toNat_natCast, Nat.mul_one, hp]
end Go.Proofs.Ytngffhpkjekopaa
