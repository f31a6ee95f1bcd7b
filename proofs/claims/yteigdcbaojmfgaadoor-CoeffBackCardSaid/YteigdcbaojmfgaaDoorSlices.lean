/- The lists that statements share: held side by side, written over, copied. -/
import Derived.Test.YteigdcbaojmfgaaDoorMem
namespace Go.Proofs.YteigdcbaojmfgaaDoor
open Go.RowKit
set_option linter.unusedSimpArgs false
set_option linter.unusedVariables false

theorem info_int : (Tryd.prog.info? 3).map (fun i => (i.zero, i.size, i.bytes)) = some (some (.int .i64 0), 1, 8) := by kernel_rfl
theorem news_ints {w : World} {k : IntKind} {b o n : Nat} {f : Nat → Int} (h : Ints w k b o n f) : ∀ j u, ((List.range n).map fun i => Value.int k (f i))[j]? = some u → w.cell? ((⟨b, o, none⟩ : Addr).add j) = some u := by
  intro j u hu
  have hj : j < n := by
    have := (List.getElem?_eq_some_iff.1 hu).1
    simpa using this
  rw [Addr.add_lit, h j hj]
  simpa [hj] using hu
theorem one_cells (k : IntKind) (n : Nat) (f : Nat → Int) : ∀ u ∈ (List.range n).map (fun i => Value.int k (f i)), u.oneCell' = true := by
  intro u hu
  obtain ⟨i, _, rfl⟩ := List.mem_map.1 hu
  rfl
/-- a copy of a list: a row of the call's own. -/
def Copied (k : IntKind) (w : World) (n : Nat) (f : Nat → Int) (e : Ending) (w' : World) : Prop :=
  ∃ g c, e = .returned (.slice (some ⟨g, 0, none⟩) n c) ∧ w.heap.size ≤ g ∧ g < w'.heap.size ∧ n ≤ c ∧ c ≤ maxLen ∧ Arr w' k g n f ∧ Below w.heap.size w w'
end Go.Proofs.YteigdcbaojmfgaaDoor
