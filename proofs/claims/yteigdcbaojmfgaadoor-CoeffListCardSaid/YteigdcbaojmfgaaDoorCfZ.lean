/- law08, plain: no code begins another. -/
import Derived.Test.YteigdcbaojmfgaaDoorCfX
namespace Go.Proofs.YteigdcbaojmfgaaDoor
set_option linter.unusedSimpArgs false
set_option linter.unusedVariables false
namespace Cf
theorem tab_apart : ∀ first, ∀ a ∈ tab first, ∀ b ∈ tab first, sameB (cs a.code) (cs b.code) = true → a = b := by decide +kernel
theorem tab_esc : ∀ first, ∀ a ∈ tab first, sameB (cs a.code) escB = false := by decide +kernel
theorem tab_end : ∀ a ∈ tab false, sameB (cs a.code) [49, 48] = false := by decide +kernel
theorem esc_end : sameB escB [49, 48] = false := by decide +kernel
theorem same_pre {x a : List UInt8} (h : sameB x a = true) (hl : a.length ≤ x.length) : a <+: x := by
  unfold sameB at h
  rw [Nat.min_eq_right hl, List.take_length] at h
  have e : x.take a.length = a := by simpa using h
  rw [← e]
  exact List.take_prefix _ _
theorem pre_same {a b : List UInt8} (h : a <+: b) : sameB a b = true := by
  obtain ⟨t, rfl⟩ := h
  simp [sameB]
theorem same_comm (a b : List UInt8) : sameB a b = sameB b a := by
  unfold sameB
  rw [Nat.min_comm b.length a.length]
  exact Bool.eq_iff_iff.2 (by rw [beq_iff_eq, beq_iff_eq]; exact ⟨Eq.symm, Eq.symm⟩)
theorem same_two {x a b : List UInt8} (ha : sameB x a = true) (hb : sameB x b = true) (la : a.length ≤ x.length) (lb : b.length ≤ x.length) : sameB a b = true := by
  have h1 := same_pre ha la
  have h2 := same_pre hb lb
  rcases Nat.le_total a.length b.length with h | h
  · exact pre_same (List.prefix_of_prefix_length_le h1 h2 h)
  · rw [same_comm]
    exact pre_same (List.prefix_of_prefix_length_le h2 h1 h)
/-- one entry alone stands at the bits' beginning. -/
theorem tab_one (first : Bool) {x : List UInt8} {a b : Ent} (ha : a ∈ tab first) (hb : b ∈ tab first) (h1 : sameB x (cs a.code) = true) (h2 : sameB x (cs b.code) = true) (l1 : a.code.length ≤ x.length) (l2 : b.code.length ≤ x.length) : a = b :=
  tab_apart first a ha b hb (same_two h1 h2 (by simpa [cs] using l1) (by simpa [cs] using l2))
end Cf
end Go.Proofs.YteigdcbaojmfgaaDoor
