/- The document's Get and the program's, plain: which code stands there. -/
import Derived.Test.YteigdcbaojmfgaaDoorChR
import Derived.Test.YteigdcbaojmfgaaDoorCfG
import Derived.Test.YteigdcbaojmfgaaDoorCfZ
namespace Go.Proofs.YteigdcbaojmfgaaDoor
open Go.RowKit
set_option linter.unusedSimpArgs false
set_option linter.unusedVariables false
namespace Cf
theorem cs_take (l : List Bool) (n : Nat) : (cs l).take n = cs (l.take n) := by simp [cs, List.map_take]
theorem cs_pre {a b : List Bool} : cs a <+: cs b ↔ a <+: b := by
  constructor
  · intro h
    have h1 := List.prefix_iff_eq_take.1 h
    rw [cs_len, cs_take] at h1
    rw [cs_inj h1]
    exact List.take_prefix _ _
  · rintro ⟨t, rfl⟩
    exact ⟨cs t, by simp [cs]⟩
theorem begB_cs {a b : List Bool} : begB (cs a) (cs b) = true ↔ b <+: a := (begB_iff _ _).trans cs_pre
theorem begB_no {a b : List Bool} : begB (cs a) (cs b) = false ↔ ¬ b <+: a := by rw [← begB_cs, Bool.not_eq_true]
theorem sameB_cs {a b : List Bool} : sameB (cs a) (cs b) = true ↔ a <+: b ∨ b <+: a := by
  constructor
  · intro h
    rcases Nat.le_total (cs b).length (cs a).length with hl | hl
    · exact .inr (cs_pre.1 (same_pre h hl))
    · rw [same_comm] at h
      exact .inl (cs_pre.1 (same_pre h hl))
  · rintro (h | h)
    · exact pre_same (cs_pre.2 h)
    · rw [same_comm]
      exact pre_same (cs_pre.2 h)
theorem seenL_len (F : Nat → Int) (q n : Nat) : (seenL F q n).length = n := by simp [seenL]
theorem seenL_take (F : Nat → Int) (q n k : Nat) : (seenL F q n).take k = seenL F q (min k n) := by
  unfold seenL
  rw [← List.map_take, List.take_range]
/-- the bits that both see. -/
def S20 (F : Nat → Int) (N q : Nat) : List Bool := seenL F q (min 20 (8 * N - q))
def S24 (F : Nat → Int) (N q : Nat) : List Bool := seenL F q (min 24 (8 * N - q))
theorem S20_take (F : Nat → Int) (N q : Nat) : (S24 F N q).take 20 = S20 F N q := by
  unfold S24 S20
  rw [seenL_take]
  congr 1
  omega
theorem S20_len (F : Nat → Int) (N q : Nat) : (S20 F N q).length = min 20 (8 * N - q) := seenL_len _ _ _
theorem S24_len (F : Nat → Int) (N q : Nat) : (S24 F N q).length = min 24 (8 * N - q) := seenL_len _ _ _
theorem pre_24 {F : Nat → Int} {N q : Nat} {c : List Bool} (h : c.length ≤ 19) : c <+: S24 F N q ↔ c <+: S20 F N q := by
  rw [← S20_take]
  constructor
  · intro hp
    exact List.prefix_take_iff.2 ⟨hp, by omega⟩
  · intro hp
    exact hp.trans (List.take_prefix _ _)
theorem near_24 {F : Nat → Int} {N q : Nat} {c : List Bool} (h : c.length ≤ 19) : S24 F N q <+: c ↔ S20 F N q <+: c := by
  by_cases hl : 8 * N - q ≤ 20
  · have e : S24 F N q = S20 F N q := by unfold S24 S20; rw [Nat.min_eq_right (by omega), Nat.min_eq_right hl]
    rw [e]
  · constructor
    · intro hp
      have := hp.length_le
      rw [S24_len] at this
      omega
    · intro hp
      have := hp.length_le
      rw [S20_len] at this
      omega
/-- code i. -/
def cI (first : Bool) (i : Nat) : List Bool := (cR first).getD i []
theorem cI_short : ∀ first, ∀ i, i < nOf first → (cI first i).length ≤ 19 := by decide +kernel
theorem cI_apart {first : Bool} {i j : Nat} (hi : i < nOf first) (hj : j < nOf first) (h : i ≠ j) : ¬ cI first j <+: cI first i := begB_no.1 (cR_apart first i hi j hj h)
/-- two codes that both begin a text, or one that begins it while it begins the other, are one. -/
theorem cI_one {first : Bool} {i j : Nat} {S : List Bool} (hi : i < nOf first) (hj : j < nOf first) (h1 : cI first i <+: S) (h2 : cI first j <+: S) : i = j := by
  by_cases h : i = j
  · exact h
  · rcases Nat.le_total (cI first i).length (cI first j).length with hl | hl
    · exact absurd (List.prefix_of_prefix_length_le h1 h2 hl) (cI_apart hj hi (Ne.symm h))
    · exact absurd (List.prefix_of_prefix_length_le h2 h1 hl) (cI_apart hi hj h)
theorem cI_near {first : Bool} {i j : Nat} {S : List Bool} (hi : i < nOf first) (hj : j < nOf first) (h1 : cI first i <+: S) (h2 : S <+: cI first j) : i = j := by
  by_cases h : i = j
  · exact h
  · exact absurd (h1.trans h2) (cI_apart hj hi (Ne.symm h))
def nI (first : Bool) (i : Nat) : Int := (nR first).getD i 0
def rdQ (first : Bool) (F : Nat → Int) (N q : Nat) : Int × Int × Int := tGet (nOf first) (cI first) (nI first) (cs (S24 F N q))
theorem rdT_Q {first : Bool} {F : Nat → Int} {N : Nat} {p : Int} (h : ¬ p < 0) : rdT first F N p = rdQ first F N p.toNat := by
  unfold rdT
  rw [if_neg h]
  rfl
theorem rd_find {first : Bool} {F : Nat → Int} {N q i : Nat} (hi : i < nOf first) (h : cI first i <+: S20 F N q) : (List.range (nOf first)).find? (fun j => begB (cs (S24 F N q)) (cs (cI first j))) = some i := by
  refine range_find (m := fun j => begB (cs (S24 F N q)) (cs (cI first j))) hi (fun j hj => ?_) ?_
  · refine begB_no.2 (fun hp => ?_)
    have := cI_one (Nat.lt_trans hj hi) hi ((pre_24 (cI_short first j (Nat.lt_trans hj hi))).1 hp) h
    omega
  · exact begB_cs.2 ((pre_24 (cI_short first i hi)).2 h)
theorem rd_none {first : Bool} {F : Nat → Int} {N q : Nat} (h : ∀ j, j < nOf first → ¬ cI first j <+: S20 F N q) : (List.range (nOf first)).find? (fun j => begB (cs (S24 F N q)) (cs (cI first j))) = none := by
  refine range_none (m := fun j => begB (cs (S24 F N q)) (cs (cI first j))) (fun j hj => ?_)
  exact begB_no.2 (fun hp => h j hj ((pre_24 (cI_short first j hj)).1 hp))
theorem rd_hit {first : Bool} {F : Nat → Int} {N q i : Nat} (hi : i < nOf first) (h : cI first i <+: S20 F N q) : rdQ first F N q = (nI first i, ((cI first i).length : Int), 0) := by
  have e := rd_find hi h
  unfold rdQ tGet
  rw [e]
theorem rd_near {first : Bool} {F : Nat → Int} {N q i : Nat} (hi : i < nOf first) (h : S20 F N q <+: cI first i) (hl : S20 F N q ≠ cI first i) : rdQ first F N q = (0, 0, 5) := by
  have e := rd_none (first := first) (F := F) (N := N) (q := q) (fun j hj hp => by
    have e := cI_near hj hi hp h
    subst e
    exact hl (h.eq_of_length_le hp.length_le))
  have e2 : (List.range (nOf first)).any (fun j => begB (cs (cI first j)) (cs (S24 F N q))) = true := range_any (m := fun j => begB (cs (cI first j)) (cs (S24 F N q))) hi (begB_cs.2 ((near_24 (cI_short first i hi)).2 h))
  unfold rdQ tGet
  rw [e, e2]
  rfl
theorem rd_no {first : Bool} {F : Nat → Int} {N q : Nat} (h1 : ∀ i, i < nOf first → ¬ cI first i <+: S20 F N q) (h2 : ∀ i, i < nOf first → ¬ S20 F N q <+: cI first i) : rdQ first F N q = (0, 0, 7) := by
  have e := rd_none h1
  have e2 : (List.range (nOf first)).any (fun j => begB (cs (cI first j)) (cs (S24 F N q))) = false := range_not (m := fun j => begB (cs (cI first j)) (cs (S24 F N q))) (fun j hj => begB_no.2 (fun hp => h2 j hj ((near_24 (cI_short first j hj)).1 hp)))
  unfold rdQ tGet
  rw [e, e2]
  rfl
theorem cI_tab : ∀ first, ∀ i, i < 63 → cI first i = ((tab first).getD i ⟨0, 0, []⟩).code ∧ nI first i = (i : Int) := by decide +kernel
theorem cI_esc : ∀ first, cI first (nOf first - 1) = escC ∧ nI first (nOf first - 1) = 1000 := by decide +kernel
theorem cI_end : cI false 63 = [true, false] ∧ nI false 63 = 1001 := by decide +kernel
theorem nOf_ge (first : Bool) : 64 ≤ nOf first := by cases first <;> decide
theorem escB_cs : escB = cs escC := rfl
theorem endB_cs : ([49, 48] : List UInt8) = cs [true, false] := rfl
end Cf
end Go.Proofs.YteigdcbaojmfgaaDoor
