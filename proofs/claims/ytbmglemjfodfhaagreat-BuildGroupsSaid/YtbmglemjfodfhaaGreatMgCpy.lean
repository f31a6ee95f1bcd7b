/- A builtin copy into a row of numbers. -/
import Derived.Test.YtbmglemjfodfhaaGreatMgArrB
import Derived.Laws.CopyOwn
import Derived.OwnWalkIn
set_option linter.unusedVariables false
set_option linter.unusedSimpArgs false
namespace Go.Proofs.YtbmglemjfodfhaaGreat
open Go.RowKit
theorem Arr.paint {w : World} {k : IntKind} {g n : Nat} {f : Nat → Int} (h : Arr w k g n f) (o m : Nat) (hm : o + m ≤ n) (s : Nat → Int) :
    Arr (w.setCells g o ((List.range m).map fun i => .int k (s i))) k g n (fun i => if o ≤ i ∧ i < o + m then s (i - o) else f i) := by
  intro i hi
  have hl : ((List.range m).map fun i => Value.int k (s i)).length = m := by simp
  refine ⟨?_, by rw [frozen_setCells]; exact (h i hi).2⟩
  simp only []
  by_cases hb : o ≤ i ∧ i < o + m
  · rw [if_pos hb]
    have h1 := World.cell?_setCells_in g ((List.range m).map fun i => .int k (s i)) o w (fun j hj => by rw [hl] at hj; rw [(h (o + j) (by omega)).1]; rfl) (i - o) (by rw [hl]; omega)
    rw [show o + (i - o) = i by omega] at h1
    rw [h1]
    simp
  · rw [if_neg hb]
    rw [World.cell?_setCells_out g _ o w _ (fun _ _ => by rw [hl]; simp only []; omega)]
    exact (h i hi).1
theorem src_cells {w : World} {k : IntKind} {ad : Addr} {m : Nat} {s : Nat → Int} (h : ∀ j, j < m → w.cell? (ad.add j) = some (.int k (s j))) : ∀ j v, ((List.range m).map fun i => Value.int k (s i))[j]? = some v → w.cell? (ad.add j) = some v := by
  intro j u hu
  have hj : j < m := by
    have := (List.getElem?_eq_some_iff.1 hu).1
    simpa using this
  rw [h j hj]
  simpa [hj] using hu
theorem one_ints (k : IntKind) (n : Nat) (f : Nat → Int) : ∀ u ∈ (List.range n).map (fun i => Value.int k (f i)), u.oneCell' = true := by
  intro u hu
  obtain ⟨i, _, rfl⟩ := List.mem_map.1 hu
  rfl
section
variable {P : Program} {w : World} {ops : Array Oper} {rest : List Oper} {o : Oper} {a : Act} {Q : Exit → Act → World → Prop}
theorem run_copy_arr (dT sT ty elem : TypeId) {k : IntKind} {g n off m dc sc : Nat} {f s : Nat → Int} {ad : Addr} (hu : P.underlying dT = some (.slice elem)) (hs : (P.info? elem).map (·.size) = some 1)
    (h : Arr w k g n f) (hm : off + m ≤ n) (hsrc : ∀ j, j < m → w.cell? (ad.add j) = some (.int k (s j))) :
    (Builtin.copy_ #[dT, sT] ty #[.slice (some ⟨g, off, none⟩) m dc, .slice (some ad) m sc]).run P w = .ok (goInt m) (w.setCells g off ((List.range m).map fun i => .int k (s i))) := by
  have hl : ((List.range m).map fun i => Value.int k (s i)).length = m := by simp
  have := run_copy_cells (P := P) w dT sT ty elem g off m dc ad m sc ((List.range m).map fun i => .int k (s i)) hu hs (by rw [hl]; simp) (src_cells hsrc)
    (fun j hj => by rw [hl] at hj; rw [(h (off + j) (by omega)).1]; rfl) (fun j hj => by rw [hl] at hj; exact (h (off + j) (by omega)).2) (one_ints k m s)
  rwa [hl] at this
theorem wpListIn_copy_arr {F : Fence} {nF : Nat} (hgd : o.guard = none) (d x : Operand) (dT sT : TypeId) (ho : o.op = .call { callee := .builtin .copy, args := #[d, x], argTypes := #[dT, sT] }) (elem : TypeId)
    (hu : P.underlying dT = some (.slice elem)) (hs : (P.info? elem).map (·.size) = some 1) {k : IntKind} (g n off m dc sc : Nat) (f s : Nat → Int) (ad : Addr)
    (hd : a.eval d = .slice (some ⟨g, off, none⟩) m dc) (hx : a.eval x = .slice (some ad) m sc) (h : Arr w k g n f) (hm : off + m ≤ n) (hsrc : ∀ j, j < m → w.cell? (ad.add j) = some (.int k (s j)))
    (hK : ∀ w', Hid (Arr w' k g n (fun i => if off ≤ i ∧ i < off + m then s (i - off) else f i)) → Hid (w.grownBy w' (some g)) → wpListIn F nF P ops Q rest (a.put o.dst (goInt m)) w') : wpListIn F nF P ops Q (o :: rest) a w := by
  refine wpListIn_plain hgd fun K hK' => ?_
  have hrun := run_copy_arr (P := P) dT sT o.type elem (dc := dc) (sc := sc) hu hs h hm hsrc
  unfold Oper.wpIn
  refine ⟨?_, ?_⟩
  · simp [Oper.about, ho, resolve, Target.leads, Sem.run_pure]
  · rw [Oper.semAt_plain F _ _ (by rw [ho]; intro c hc'; cases hc')]
    simp [execOp, ho, resolve, invoke, builtin, hd, hx, hrun, Result.andThen]
    exact hK' _ _ (hK _ (Lib.hid (h.paint off m hm s)) (Lib.hid (grown_setCells g _ off w)))
theorem run_copy_there (dT sT ty elem : TypeId) {k : IntKind} {g off m dl sl dc sc : Nat} {s : Nat → Int} {ad : Addr} (hu : P.underlying dT = some (.slice elem)) (hs : (P.info? elem).map (·.size) = some 1)
    (hm : m = Nat.min sl dl) (hth : ∀ j, j < m → (w.cell? ⟨g, off + j, none⟩).isSome = true ∧ w.frozen? ⟨g, off + j, none⟩ = false) (hsrc : ∀ j, j < m → w.cell? (ad.add j) = some (.int k (s j))) :
    (Builtin.copy_ #[dT, sT] ty #[.slice (some ⟨g, off, none⟩) dl dc, .slice (some ad) sl sc]).run P w = .ok (goInt m) (w.setCells g off ((List.range m).map fun i => .int k (s i))) := by
  have hl : ((List.range m).map fun i => Value.int k (s i)).length = m := by simp
  have := run_copy_cells (P := P) w dT sT ty elem g off dl dc ad sl sc ((List.range m).map fun i => .int k (s i)) hu hs (by rw [hl]; exact hm) (src_cells hsrc)
    (fun j hj => by rw [hl] at hj; exact (hth j hj).1) (fun j hj => by rw [hl] at hj; exact (hth j hj).2) (one_ints k m s)
  rwa [hl] at this
theorem wpList_copy_there (hgd : o.guard = none) (d x : Operand) (dT sT : TypeId) (ho : o.op = .call { callee := .builtin .copy, args := #[d, x], argTypes := #[dT, sT] }) (elem : TypeId)
    (hu : P.underlying dT = some (.slice elem)) (hs : (P.info? elem).map (·.size) = some 1) (k : IntKind) (g off m dl sl dc sc : Nat) (s : Nat → Int) (ad : Addr)
    (hd : a.eval d = .slice (some ⟨g, off, none⟩) dl dc) (hx : a.eval x = .slice (some ad) sl sc) (hm : m = Nat.min sl dl) (hth : ∀ j, j < m → (w.cell? ⟨g, off + j, none⟩).isSome = true ∧ w.frozen? ⟨g, off + j, none⟩ = false) (hsrc : ∀ j, j < m → w.cell? (ad.add j) = some (.int k (s j)))
    (hK : ∀ w', w' = w.setCells g off ((List.range m).map fun i => .int k (s i)) → wpList P ops Q rest (a.put o.dst (goInt m)) w') : wpList P ops Q (o :: rest) a w := by
  refine wpList_plain hgd fun K hK' => ?_
  have hrun := run_copy_there (P := P) dT sT o.type elem (dc := dc) (sc := sc) hu hs hm hth hsrc
  unfold Oper.wp
  simp [execOp, ho, resolve, invoke, builtin, hd, hx, hrun, Result.andThen]
  exact hK' _ _ (hK _ rfl)
theorem step_copy_there {K : Act → World → Prop} {E : Prop} (hgd : o.guard = none) (d x : Operand) (dT sT : TypeId) (ho : o.op = .call { callee := .builtin .copy, args := #[d, x], argTypes := #[dT, sT] }) (elem : TypeId)
    (hu : P.underlying dT = some (.slice elem)) (hs : (P.info? elem).map (·.size) = some 1) (k : IntKind) (g off m dl sl dc sc : Nat) (s : Nat → Int) (ad : Addr)
    (hd : a.eval d = .slice (some ⟨g, off, none⟩) dl dc) (hx : a.eval x = .slice (some ad) sl sc) (hm : m = Nat.min sl dl) (hth : ∀ j, j < m → (w.cell? ⟨g, off + j, none⟩).isSome = true ∧ w.frozen? ⟨g, off + j, none⟩ = false) (hsrc : ∀ j, j < m → w.cell? (ad.add j) = some (.int k (s j)))
    (hK : ∀ w', w' = w.setCells g off ((List.range m).map fun i => .int k (s i)) → K (a.put o.dst (goInt m)) w') : if Region.wanted o (yielded ops a.tmps) = true then Oper.wp P o a w K Q else E := by
  have hw : Region.wanted o (yielded ops a.tmps) = true := by simp [Region.wanted, hgd]
  rw [if_pos hw]
  have hrun := run_copy_there (P := P) dT sT o.type elem (dc := dc) (sc := sc) hu hs hm hth hsrc
  unfold Oper.wp
  simp [execOp, ho, resolve, invoke, builtin, hd, hx, hrun, Result.andThen]
  exact hK _ rfl
end
end Go.Proofs.YtbmglemjfodfhaaGreat
