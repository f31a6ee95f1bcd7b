/- What is put is got, plain. -/
import Derived.Test.YteigdcbaojmfgaaDoorChT
import Derived.Test.YteigdcbaojmfgaaDoorChF
namespace Go.Proofs.YteigdcbaojmfgaaDoor
open Go.RowKit
set_option linter.unusedSimpArgs false
set_option linter.unusedVariables false
namespace Cf
/-- a pair's code. -/
def putB (first : Bool) (r l : Int) : List Bool := match (tab first).find? (isE r l) with
  | some e => e.code ++ [decide (l < 0)]
  | none => escL r l
theorem escL_len (r l : Int) : (escL r l).length = 20 := by simp [escL, bitsL_len]
theorem not_esc {first : Bool} {i : Nat} {S : List Bool} (hi : i < nOf first - 1) (h : cI first i <+: S) : ¬ sameB (cs S) escB = true := by
  have hesc := cI_esc first
  rw [escB_cs, sameB_cs, ← hesc.1]
  rintro (h2 | h2)
  · have := cI_near (first := first) (by omega) (by omega) h h2
    omega
  · have := cI_one (first := first) (by omega) (by omega) h h2
    omega
theorem fin_got {S : List Bool} (h : [true, false] <+: S) : getB false S = ⟨0, 0, true, 2, 0⟩ := by
  unfold getB
  rw [if_neg (not_esc (first := false) (i := 63) (by decide) (by rw [cI_end.1]; exact h)), if_pos ⟨rfl, (hasPrefix_cs S).2 h⟩]
theorem code_got {first : Bool} {i : Nat} {b : Bool} {S : List Bool} {e : Ent} (hi : i < 63) (he : eI first i = e) (h : e.code ++ [b] <+: S) :
    getB first S = ⟨e.run, if b then -(e.lvl : Int) else e.lvl, false, ((e.code.length + 1 : Nat) : Int), 0⟩ := by
  have hge := nOf_ge first
  have hc : e.code <+: S := (List.prefix_append _ _).trans h
  have hlt : e.code.length < S.length := by have := h.length_le; simp at this; omega
  have hsm := eI_small (first := first) hi
  rw [he] at hsm
  have hcI : cI first i = e.code := by rw [cI_eI hi, he]
  have hme : e ∈ tab first := by rw [← he]; exact mem_eI hi
  have hend : ¬ (first = false ∧ Lib.hasPrefix (cs S) [49, 48] = true) := by
    rintro ⟨rfl, hp⟩
    have := cI_one (first := false) (i := i) (j := 63) (by omega) (by decide) (by rw [hcI]; exact hc) (by rw [cI_end.1]; exact (hasPrefix_cs S).1 hp)
    omega
  unfold getB
  rw [if_neg (not_esc (first := first) (i := i) (by omega) (by rw [hcI]; exact hc)), if_neg hend]
  have hit : hitB (cs S) e = true := by
    unfold hitB
    rw [sameB_cs.2 (.inr hc), Bool.true_and, decide_eq_true_eq, cs_len]
    exact hlt
  have hf : (tab first).find? (hitB (cs S)) = some e := by
    cases hf : (tab first).find? (hitB (cs S)) with
    | none => exact absurd hit (List.find?_eq_none.1 hf _ hme)
    | some e' =>
      obtain ⟨j, hj, hje⟩ := eI_mem (List.mem_of_find?_eq_some hf)
      have h2 := List.find?_some hf
      unfold hitB at h2
      rw [Bool.and_eq_true, decide_eq_true_eq, cs_len] at h2
      have hp : e'.code <+: S := by
        rcases sameB_cs.1 h2.1 with h3 | h3
        · have := h3.length_le; omega
        · exact h3
      have := cI_one (first := first) (i := i) (j := j) (by omega) (by omega) (by rw [hcI]; exact hc) (by rw [cI_eI hj, hje]; exact hp)
      rw [← hje, ← this, he]
  unfold tabG
  rw [hf]
  have hx : (cs S).getD e.code.length 0 = bch b := by
    obtain ⟨t, rfl⟩ := h
    simp [cs, List.getD_eq_getElem?_getD]
  have hlv : lvS (cs S) e = if b then -(e.lvl : Int) else e.lvl := by
    unfold lvS
    rw [hx]
    cases b
    · rw [if_neg (by decide), if_neg (by decide)]
    · rw [if_pos (by decide), if_pos rfl]
      exact w64 (by omega)
  simp only [hlv]
theorem esc_got {first : Bool} {r l : Int} {S : List Bool} (hp : pairB r l = true) (hS : S.length ≤ 20) (h : escL r l <+: S) : getB first S = ⟨r, l, false, 20, 0⟩ := by
  have hr : 0 ≤ r ∧ r ≤ 63 ∧ -127 ≤ l ∧ l ≤ 127 ∧ l ≠ 0 := by simpa [pairB] using hp
  have he := h.eq_of_length_le (by rw [escL_len]; exact hS)
  subst he
  have hc : escC <+: escL r l := ⟨bitsL 6 r.toNat ++ bitsL 8 (l % 256).toNat, by simp [escL, escC]⟩
  unfold getB
  rw [if_pos (by rw [escB_cs]; exact sameB_cs.2 (.inr hc))]
  unfold escG
  rw [if_neg (by rw [escL_len]; decide)]
  have e1 : (escL r l).drop 12 = bitsL 8 (l % 256).toNat := by
    unfold escL
    rw [List.drop_left' (by simp [bitsL_len])]
  have e2 : ((escL r l).take 12).drop 6 = bitsL 6 r.toNat := by
    unfold escL
    rw [List.take_left' (by simp [bitsL_len])]
    rfl
  unfold lv8
  rw [e1, e2, numL_bitsL, numL_bitsL]
  have x1 : (((l % 256).toNat % 2 ^ 8 : Nat) : Int) = l % 256 := by omega
  have x2 : ((r.toNat % 2 ^ 6 : Nat) : Int) = r := by omega
  rw [x1, x2]
  have ew : IntKind.i8.wrap (l % 256) = l := by
    have e1 : ((2 : Int) ^ IntKind.i8.bits) = 256 := rfl
    have e2 : ((2 : Int) ^ (IntKind.i8.bits - 1)) = 128 := rfl
    have e3 : IntKind.i8.signed = true := rfl
    simp only [IntKind.wrap, e1, e2, e3, Bool.true_and, decide_eq_true_eq]
    split <;> omega
  rw [ew, if_neg (by omega)]
theorem isE_pair {r l : Int} {e : Ent} (hp : pairB r l = true) (h : isE r l e = true) : (e.run : Int) = r ∧ ((e.lvl : Int) = l ∨ (e.lvl : Int) = -l) := by
  have hr : 0 ≤ r ∧ r ≤ 63 ∧ -127 ≤ l ∧ l ≤ 127 ∧ l ≠ 0 := by simpa [pairB] using hp
  unfold isE at h
  simp only [Bool.and_eq_true, Bool.or_eq_true, decide_eq_true_eq] at h
  rw [w64 (by omega)] at h
  exact h
theorem put_got {first : Bool} {r l : Int} {S : List Bool} (hp : pairB r l = true) (hS : S.length ≤ 20) (h : putB first r l <+: S) : getB first S = ⟨r, l, false, ((putB first r l).length : Nat), 0⟩ := by
  unfold putB at h ⊢
  cases hf : (tab first).find? (isE r l) with
  | none =>
    rw [hf] at h
    rw [esc_got hp hS h]
    simp [escL_len]
  | some e =>
    rw [hf] at h
    obtain ⟨i, hi, he⟩ := eI_mem (List.mem_of_find?_eq_some hf)
    obtain ⟨h1, h2⟩ := isE_pair hp (List.find?_some hf)
    have hsm := tab_codes first _ (List.mem_of_find?_eq_some hf)
    have h3 : e.code ++ [decide (l < 0)] <+: S := h
    rw [code_got hi he h3, h1]
    have el : (if decide (l < 0) then -(e.lvl : Int) else e.lvl) = l := by
      by_cases h0 : l < 0
      · rw [decide_eq_true h0, if_pos rfl]; omega
      · rw [decide_eq_false h0, if_neg (by decide)]; omega
    rw [el]
    simp
theorem putL_cs (first : Bool) (r l : Int) : putL first r l = cs (putB first r l) := by
  unfold putL putB shortL shortX
  cases hf : (tab first).find? (isE r l) with
  | none => rfl
  | some e =>
    have hsm := tab_codes first _ (List.mem_of_find?_eq_some hf)
    have hne : cs e.code ≠ [] := fun h => by
      have := congrArg List.length h
      rw [cs_len] at this
      simp at this
      rw [this] at hsm
      simp at hsm
    simp only [if_neg hne]
    by_cases h0 : l < 0
    · rw [if_pos h0, decide_eq_true h0]; simp [cs, bch]
    · rw [if_neg h0, decide_eq_false h0]; simp [cs, bch]
theorem put_len (first : Bool) (r l : Int) : 2 ≤ (putB first r l).length ∧ (putB first r l).length ≤ 20 := by
  unfold putB
  cases hf : (tab first).find? (isE r l) with
  | none => simp [escL_len]
  | some e =>
    have hsm := tab_codes first _ (List.mem_of_find?_eq_some hf)
    simp
    omega
theorem isE_none (first : Bool) (r l : Int) : (tab first).find? (isE r l) = none ↔ shortL false r l = [] := by
  have e : shortL first r l = [] ↔ shortL false r l = [] := by
    cases first with
    | false => exact Iff.rfl
    | true =>
      rw [shortL_true]
      unfold fixL
      split
      · rename_i h; rw [h]; simp
      · exact Iff.rfl
  rw [← e]
  unfold shortL shortX
  cases hf : (tab first).find? (isE r l) with
  | none => simp
  | some e =>
    have hsm := tab_codes first _ (List.mem_of_find?_eq_some hf)
    simp [cs]
    intro h
    rw [h] at hsm
    simp at hsm
theorem put_short (first : Bool) (r l : Int) (h : shortL false r l ≠ []) : (putB first r l).length ≤ 14 := by
  unfold putB
  cases hf : (tab first).find? (isE r l) with
  | none => exact absurd ((isE_none first r l).1 hf) h
  | some e =>
    have hsm := tab_codes first _ (List.mem_of_find?_eq_some hf)
    simp
    omega
theorem put_esc (first : Bool) (r l : Int) (h : shortL false r l = []) : putB first r l = escL r l := by
  unfold putB
  rw [(isE_none first r l).2 h]
theorem tab_ones : ∀ first, ∀ e ∈ tab first, (e.code.take 9).any id = true := by decide +kernel
theorem esc_ones (r l : Int) : ((escL r l).take 9).any id = true := by
  unfold escL
  rw [List.append_assoc]
  generalize bitsL 6 r.toNat ++ bitsL 8 (l % 256).toNat = t
  simp
theorem put_ones (first : Bool) (r l : Int) : ((putB first r l).take 9).any id = true := by
  unfold putB
  cases hf : (tab first).find? (isE r l) with
  | none => exact esc_ones r l
  | some e =>
    have h := tab_ones first _ (List.mem_of_find?_eq_some hf)
    rw [List.take_append, List.any_append, h, Bool.true_or]
/-- no code begins another one. -/
theorem put_apart (first : Bool) {r l r' l' : Int} (hp : pairB r l = true) (hq : pairB r' l' = true) : sameB (cs (putB first r l)) (cs (putB first r' l')) = true ↔ (r = r' ∧ l = l') := by
  constructor
  · intro h
    have key : ∀ {r l r' l' : Int}, pairB r l = true → pairB r' l' = true → putB first r l <+: putB first r' l' → r = r' ∧ l = l' := by
      intro r l r' l' hp hq h
      have h1 := put_got hp (put_len first r' l').2 h
      have h2 := put_got hq (put_len first r' l').2 (List.prefix_refl _)
      rw [h1] at h2
      exact ⟨congrArg G5.r h2, congrArg G5.l h2⟩
    rcases sameB_cs.1 h with h | h
    · exact key hp hq h
    · obtain ⟨a, b⟩ := key hq hp h
      exact ⟨a.symm, b.symm⟩
  · rintro ⟨rfl, rfl⟩
    exact sameB_cs.2 (.inl (List.prefix_refl _))
theorem put_apart_esc (first : Bool) {r l r' l' : Int} (hp : pairB r l = true) (hq : pairB r' l' = true) (h : sameB (cs (putB first r l)) (cs (escL r' l')) = true) : putB first r l = escL r' l' := by
  rcases sameB_cs.1 h with h | h
  · have h1 := put_got hp (by rw [escL_len]; exact Nat.le_refl _) h
    have h2 := esc_got (first := first) hq (by rw [escL_len]; exact Nat.le_refl _) (List.prefix_refl _)
    rw [h1] at h2
    have h3 : (((putB first r l).length : Nat) : Int) = 20 := congrArg G5.n h2
    exact h.eq_of_length_le (by rw [escL_len]; omega)
  · exact (h.eq_of_length_le (by rw [escL_len]; exact (put_len first r l).2)).symm
theorem put_not_end {r l : Int} (hp : pairB r l = true) : ¬ [true, false] <+: putB false r l := by
  intro h
  have h1 := put_got hp (put_len false r l).2 (List.prefix_refl _)
  rw [fin_got h] at h1
  have h3 : true = false := congrArg G5.en h1
  cases h3
end Cf
end Go.Proofs.YteigdcbaojmfgaaDoor
