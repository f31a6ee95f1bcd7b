/- Whole arrays out of rows; an array's element at an index that is a letter. | Whole arrays stored; a result that lies in a cell. -/
import Derived.Test.YtpibeocngkjolaaGreatDoorMgQuantBl
import Derived.Deep.MidRow
import Derived.DeepKeys
set_option linter.unusedVariables false
set_option linter.unusedSimpArgs false

namespace Go.Proofs.YtpibeocngkjolaaGreatDoor
open Go.RowKit
set_option linter.unusedSimpArgs false
set_option linter.unusedVariables false

/-- the first n numbers, as cells. -/
def rowOf (k : IntKind) (n : Nat) (f : Nat → Int) : Array Value := ((List.range n).map fun i => Value.int k (f i)).toArray
theorem rowOf_size (k : IntKind) (n : Nat) (f : Nat → Int) : (rowOf k n f).size = n := by simp [rowOf]
theorem rowOf_get (k : IntKind) (n : Nat) (f : Nat → Int) (i : Nat) (hi : i < n) : (rowOf k n f)[i]? = some (.int k (f i)) := by simp [rowOf, hi]
theorem run_loadVar_arr {P : Program} {w : World} {k : IntKind} {g n m : Nat} {f : Nat → Int} {ty e : TypeId} (h : Arr w k g n f) (hu : P.underlying ty = some (.array m e)) (hi : (P.info? ty).map (·.size) = some n) :
    (loadVar ty ⟨g, 0, none⟩).run P w = .ok (.agg (rowOf k n f)) w := by
  have hl : (loadCells ⟨g, 0, none⟩ (rowOf k n f).toList.length).run P w = .ok (rowOf k n f).toList.toArray w :=
    run_loadCells_list (P := P) w ⟨g, 0, none⟩ (rowOf k n f).toList (fun j v hv => by
      have hadd : (⟨g, 0, none⟩ : Addr).add j = ⟨g, j, none⟩ := by unfold Addr.add; split <;> simp_all
      have hj : j < n := by
        have := (List.getElem?_eq_some_iff.1 hv).1
        simpa [rowOf] using this
      have e1 := rowOf_get k n f j hj
      rw [hadd, (h j hj).1]
      exact e1.symm.trans (by simpa using hv))
  cases hq : P.info? ty with
  | none => simp [hq] at hi
  | some i =>
    have hs : i.size = n := by simpa [hq] using hi
    have hagg : (isAgg ty).run P w = .ok true w := by
      unfold isAgg
      rw [Sem.run_bind, run_underlying hu w]
      rfl
    simp only [Array.length_toList, Array.toArray_toList, rowOf_size] at hl
    simp [loadVar, Sem.run_bind, hagg, sizeOf, typeInfo, hq, hs, hl]
theorem wpList_load_arr {P : Program} {ops : Array Oper} {rest : List Oper} {o : Oper} {a : Act} {w : World} {Q : Exit → Act → World → Prop} (hgd : o.guard = none) (ty : TypeId) (x : Operand) (ho : o.op = .load ty x)
    {k : IntKind} {g n m : Nat} {f : Nat → Int} {e : TypeId} (hx : a.eval x = .pointer (some ⟨g, 0, none⟩)) (h : Arr w k g n f) (hu : P.underlying ty = some (.array m e)) (hi : (P.info? ty).map (·.size) = some n)
    (hK : wpList P ops Q rest (a.put o.dst (.agg (rowOf k n f))) w) : wpList P ops Q (o :: rest) a w :=
  wpList_plain hgd fun _ hKK => by
    unfold Oper.wp execOp
    simp only [ho, hx, Instr.loadAt, Instr.sureAddr, Sem.run_bind, Sem.run_pure, Result.andThen_ok, run_loadVar_arr h hu hi]
    exact hKK _ _ hK
theorem run_index_row {P : Program} (w : World) {k : IntKind} {n : Nat} {f : Nat → Int} {ty e : TypeId} {i : TypeInfo} (hu : P.underlying ty = some (.array n e)) (he : P.underlying e = some (.int k)) (hi : P.info? e = some i) (h1 : i.size = 1) (kk : IntKind) (j : Nat) (hj : j < n) :
    (Instr.index ty (.agg (rowOf k n f)) (.int kk (j : Int))).run P w = .ok (.int k (f j)) w := by
  have hagg : (isAgg e).run P w = .ok false w := by
    unfold isAgg
    rw [Sem.run_bind, run_underlying he w]
    rfl
  have hs : (sizeOf e).run P w = .ok 1 w := by simp [sizeOf, typeInfo, hi, h1]
  have hp : (part e (rowOf k n f) j).run P w = .ok (.int k (f j)) w := by
    unfold part
    rw [Sem.run_bind, hagg]
    simp [rowOf_get k n f j hj]
  simp only [Instr.index, asIntOf, Sem.run_bind, Sem.run_pure, Result.andThen_ok, run_underlying hu w]
  rw [if_pos (by omega)]
  simp only [Sem.run_bind, hs, Result.andThen_ok, Int.toNat_natCast, Nat.mul_one, hp]
end Go.Proofs.YtpibeocngkjolaaGreatDoor

namespace Go.Proofs.YtpibeocngkjolaaGreatDoor
open Go.RowKit

theorem grown_setCells (b : Nat) : ∀ (vs : List Value) (o : Nat) (w : World), w.grownBy (w.setCells b o vs) (some b)
  | [], _, w => World.grownBy.refl w _
  | v :: r, o, w => grown_trans (grown_set (World.grownBy.refl w (some b)) o v) (grown_setCells b r (o + 1) _)
theorem frozen_setCells (b : Nat) (p : Addr) : ∀ (vs : List Value) (o : Nat) (w : World), (w.setCells b o vs).frozen? p = w.frozen? p
  | [], _, _ => rfl
  | _ :: r, o, _ => (frozen_setCells b p r (o + 1) _).trans (World.frozen?_setCell _ _ _ _)
theorem Arr.there {w : World} {k : IntKind} {g n : Nat} {f : Nat → Int} (h : Arr w k g n f) : w.there g 0 n := fun j hj => by
  rw [Nat.zero_add]
  exact ⟨by rw [(h j hj).1]; rfl, (h j hj).2⟩
theorem Arr.storeAll {w : World} {k : IntKind} {g n : Nat} {f : Nat → Int} (h : Arr w k g n f) (k' : IntKind) (f' : Nat → Int) : Arr (w.setCells g 0 (rowOf k' n f').toList) k' g n f' := fun i hi => by
  have hr := World.rangeAt_setCells_same w g 0 (rowOf k' n f').toList (by
    have := h.there
    rwa [show (rowOf k' n f').toList.length = n by simp [rowOf]])
  have hv := hr i (.int k' (f' i)) (by simpa using rowOf_get k' n f' i hi)
  rw [Nat.zero_add] at hv
  exact ⟨hv, (frozen_setCells _ _ _ _ _).trans (h i hi).2⟩
theorem rowOf_one (k : IntKind) (n : Nat) (f : Nat → Int) : (rowOf k n f).all (·.oneCell') = true := by
  unfold rowOf
  refine all_oneCell_toArray fun v hv => ?_
  obtain ⟨i, _, rfl⟩ := List.mem_map.1 hv
  rfl
/-- a whole array is stored into a row. -/
theorem wpList_store_arr {P : Program} {ops : Array Oper} {rest : List Oper} {o : Oper} {a : Act} {w : World} {Q : Exit → Act → World → Prop} (hgd : o.guard = none) (ty : TypeId) (x y : Operand) (ho : o.op = .store ty x y)
    {k : IntKind} {g n : Nat} {f f' : Nat → Int} (hx : a.eval x = .pointer (some ⟨g, 0, none⟩)) (hy : a.eval y = .agg (rowOf k n f')) (h : Arr w k g n f) (hi : (P.info? ty).map (·.size) = some n)
    (hK : ∀ w', Hid (Arr w' k g n f') → Hid (w.grownBy w' (some g)) → wpList P ops Q rest (a.put o.dst undef) w') : wpList P ops Q (o :: rest) a w := by
  refine wpList_store_mid hgd ty x y ho g 0 (rowOf k n f') hx hy ?_ ?_ (rowOf_one k n f') ?_
  · rw [rowOf_size]; exact h.there
  · rw [rowOf_size]; exact hi
  · exact hK _ (Lib.hid (h.storeAll k f')) (Lib.hid (grown_setCells g _ 0 w))
theorem results_cell_arr {P : Program} {fn : Func} {p : Tmp} {ty : TypeId} (hr : fn.results = #[.cell p ty]) (tmps : Array Value) {w : World} {k : IntKind} {g n m : Nat} {f : Nat → Int} {e : TypeId}
    (hp : tmps.getD p undef = .pointer (some ⟨g, 0, none⟩)) (h : Arr w k g n f) (hu : P.underlying ty = some (.array m e)) (hi : (P.info? ty).map (·.size) = some n) :
    (results fn tmps).run P w = .ok (.agg (rowOf k n f)) w := by
  have hp' : tmps[p]?.getD undef = .pointer (some ⟨g, 0, none⟩) := by simpa using hp
  simp [results, hr, hp', asAddr, run_loadVar_arr h hu hi]
theorem rowOf_extract (k : IntKind) (n q j : Nat) (f : Nat → Int) (h : j * q + q ≤ n) : (rowOf k n f).extract (j * q) (j * q + q) = rowOf k q (fun x => f (j * q + x)) := by
  apply Array.ext
  · simp [rowOf]; omega
  · intro i h1 h2
    simp [rowOf]
theorem info_size {P : Program} {t : TypeId} {n : Nat} (h : (P.info? t).map (·.size) = some n) : ∃ i, P.info? t = some i ∧ i.size = n := by
  cases hq : P.info? t with
  | none => rw [hq] at h; cases h
  | some i => rw [hq] at h; exact ⟨i, rfl, by simpa using h⟩
/-- a row of rows at an index: a row. -/
theorem run_index_sub {P : Program} (w : World) {k : IntKind} {n m q q2 : Nat} {f : Nat → Int} {ty e e2 : TypeId} (hu : P.underlying ty = some (.array m e)) (he : P.underlying e = some (.array q2 e2)) (hi : (P.info? e).map (·.size) = some q) (kk : IntKind) (j : Nat) (J : Int) (hJ : J = j) (hj : j < m) (hn : j * q + q ≤ n) :
    (Instr.index ty (.agg (rowOf k n f)) (.int kk J)).run P w = .ok (.agg (rowOf k q (fun x => f (j * q + x)))) w := by
  subst hJ
  obtain ⟨i, hi, hs⟩ := info_size hi
  have hagg : (isAgg e).run P w = .ok true w := by
    unfold isAgg
    rw [Sem.run_bind, run_underlying he w]
    rfl
  have hz : (sizeOf e).run P w = .ok q w := by simp [sizeOf, typeInfo, hi, hs]
  have hp : (part e (rowOf k n f) (j * q)).run P w = .ok (.agg (rowOf k q (fun x => f (j * q + x)))) w := by
    unfold part
    rw [Sem.run_bind, hagg]
    simp [hz, rowOf_extract k n q j f hn]
  simp only [Instr.index, asIntOf, Sem.run_bind, Sem.run_pure, Result.andThen_ok, run_underlying hu w]
  rw [if_pos (by omega)]
  simp only [Sem.run_bind, hz, Result.andThen_ok, Int.toNat_natCast, hp]
/-- a row at an index: its number. -/
theorem run_index_num {P : Program} (w : World) {k : IntKind} {n : Nat} {f : Nat → Int} {ty e : TypeId} (hu : P.underlying ty = some (.array n e)) (he : P.underlying e = some (.int k)) (hi : (P.info? e).map (·.size) = some 1) (kk : IntKind) (j : Nat) (J : Int) (hJ : J = j) (hj : j < n) :
    (Instr.index ty (.agg (rowOf k n f)) (.int kk J)).run P w = .ok (.int k (f j)) w := by
  subst hJ
  obtain ⟨i, hi, hs⟩ := info_size hi
  exact run_index_row w hu he hi hs kk j hj
end Go.Proofs.YtpibeocngkjolaaGreatDoor
