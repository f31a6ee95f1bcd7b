/- paint's statements: 64 times a number; the chapter's examples. -/
import Derived.Test.YtbmglemjfodfhaaGreatMgPa2
import Derived.Test.YtbmglemjfodfhaaGreatMgPa8
set_option linter.unusedVariables false
set_option linter.unusedSimpArgs false

namespace Go.Proofs.YtbmglemjfodfhaaGreat
open Go.RowKit Go.Shelf
namespace Pa
open Fr Pt

theorem made_arr {w : World} {base g N : Nat} {e : TypeId} {k : IntKind} (h : w.ownsRow base e 1 (.slice (some ⟨g, 0, none⟩) N N) N (madeCells (Value.int k 0).cells (N * 1)).toList) : Arr w k g N (fun _ => 0) := by
  have hc := fun j u hu => World.ownsRow.cells h (g := g) rfl j u hu
  rcases h.2 with ⟨h0, _⟩ | ⟨g', cap, cur, h1, h2, h3, h4⟩
  · cases h0
  · cases h1
    intro i hi
    have h5 := hc i (.int k 0) (by simp [madeCells, Value.cells, hi, Nat.mod_one])
    rw [show (⟨g, 0, none⟩ : Addr).add i = ⟨g, i, none⟩ by unfold Addr.add; split <;> simp_all] at h5
    exact ⟨h5, frozen_of_row h3 i⟩
theorem arr_sl {w : World} {k : IntKind} {g n c : Nat} {F : Nat → Int} (h : Arr w k g n F) (h0 : 0 < n) (hn : n ≤ c) (hm : c ≤ maxLen) : Sl k w (.slice (some ⟨g, 0, none⟩) n c) n F :=
  ⟨_, c, rfl, hn, hm, .inr ⟨g, 0, rfl, h.lt h0, h.ints⟩⟩
end Pa
end Go.Proofs.YtbmglemjfodfhaaGreat
