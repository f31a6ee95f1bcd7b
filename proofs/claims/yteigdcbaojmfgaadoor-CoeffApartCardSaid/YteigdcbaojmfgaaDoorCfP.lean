/- The table of codes, plain. -/
import Derived.Test.YteigdcbaojmfgaaDoorCfA
import Derived.Lib.Fields
namespace Go.Proofs.YteigdcbaojmfgaaDoor
open Go.RowKit
set_option linter.unusedSimpArgs false
set_option linter.unusedVariables false
namespace Cf

def bch (b : Bool) : UInt8 := if b then 49 else 48
/-- a code as bytes. -/
def cs (l : List Bool) : List UInt8 := l.map bch
def sv (l : List UInt8) : Value := .string ⟨l.toArray⟩
def rowC : List (List (List Bool)) := [
  [[true, true], [false, true, false, false], [false, false, true, false, true], [false, false, false, false, true, true, false], [false, false, true, false, false, true, true, false], [false, false, true, false, false, false, false, true], [false, false, false, false, false, false, true, false, true, false], [false, false, false, false, false, false, false, true, true, true, false, true], [false, false, false, false, false, false, false, true, true, false, false, false], [false, false, false, false, false, false, false, true, false, false, true, true], [false, false, false, false, false, false, false, true, false, false, false, false], [false, false, false, false, false, false, false, false, true, true, false, true, false], [false, false, false, false, false, false, false, false, true, true, false, false, true], [false, false, false, false, false, false, false, false, true, true, false, false, false], [false, false, false, false, false, false, false, false, true, false, true, true, true]],
  [[false, true, true], [false, false, false, true, true, false], [false, false, true, false, false, true, false, true], [false, false, false, false, false, false, true, true, false, false], [false, false, false, false, false, false, false, true, true, false, true, true], [false, false, false, false, false, false, false, false, true, false, true, true, false], [false, false, false, false, false, false, false, false, true, false, true, false, true]],
  [[false, true, false, true], [false, false, false, false, true, false, false], [false, false, false, false, false, false, true, false, true, true], [false, false, false, false, false, false, false, true, false, true, false, false], [false, false, false, false, false, false, false, false, true, false, true, false, false]],
  [[false, false, true, true, true], [false, false, true, false, false, true, false, false], [false, false, false, false, false, false, false, true, true, true, false, false], [false, false, false, false, false, false, false, false, true, false, false, true, true]],
  [[false, false, true, true, false], [false, false, false, false, false, false, true, true, true, true], [false, false, false, false, false, false, false, true, false, false, true, false]],
  [[false, false, false, true, true, true], [false, false, false, false, false, false, true, false, false, true], [false, false, false, false, false, false, false, false, true, false, false, true, false]],
  [[false, false, false, true, false, true], [false, false, false, false, false, false, false, true, true, true, true, false]],
  [[false, false, false, true, false, false], [false, false, false, false, false, false, false, true, false, true, false, true]],
  [[false, false, false, false, true, true, true], [false, false, false, false, false, false, false, true, false, false, false, true]],
  [[false, false, false, false, true, false, true], [false, false, false, false, false, false, false, false, true, false, false, false, true]],
  [[false, false, true, false, false, true, true, true], [false, false, false, false, false, false, false, false, true, false, false, false, false]],
  [[false, false, true, false, false, false, true, true]],
  [[false, false, true, false, false, false, true, false]],
  [[false, false, true, false, false, false, false, false]],
  [[false, false, false, false, false, false, true, true, true, false]],
  [[false, false, false, false, false, false, true, true, false, true]],
  [[false, false, false, false, false, false, true, false, false, false]],
  [[false, false, false, false, false, false, false, true, true, true, true, true]],
  [[false, false, false, false, false, false, false, true, true, false, true, false]],
  [[false, false, false, false, false, false, false, true, true, false, false, true]],
  [[false, false, false, false, false, false, false, true, false, true, true, true]],
  [[false, false, false, false, false, false, false, true, false, true, true, false]],
  [[false, false, false, false, false, false, false, false, true, true, true, true, true]],
  [[false, false, false, false, false, false, false, false, true, true, true, true, false]],
  [[false, false, false, false, false, false, false, false, true, true, true, false, true]],
  [[false, false, false, false, false, false, false, false, true, true, true, false, false]],
  [[false, false, false, false, false, false, false, false, true, true, false, true, true]]]
def joinS : List (List Bool) → List UInt8
  | [] => []
  | [c] => cs c
  | c :: l => cs c ++ (32 :: joinS l)
structure Ent where
  (run lvl : Nat) (code : List Bool)
deriving DecidableEq
def rowEnt (first : Bool) (run : Nat) (row : List (List Bool)) : List Ent := (List.range row.length).map fun i => ⟨run, i + 1, if first && run == 0 && i == 0 then [true] else row.getD i []⟩
def rowN (k : Nat) : List (List Bool) := rowC.getD k []
/-- the first k rows. -/
def tabU (first : Bool) : Nat → List Ent
  | 0 => []
  | k + 1 => tabU first k ++ rowEnt first k (rowN k)
def tab (first : Bool) : List Ent := tabU first 27
theorem rowEnt_len (first : Bool) (run : Nat) (row : List (List Bool)) : (rowEnt first run row).length = row.length := by simp [rowEnt]
theorem rowEnt_take (first : Bool) (run : Nat) (row : List (List Bool)) (i : Nat) (h : i < row.length) : (rowEnt first run row).take (i + 1) = (rowEnt first run row).take i ++ [⟨run, i + 1, if first && run == 0 && i == 0 then [true] else row.getD i []⟩] := by
  rw [List.take_succ_eq_append_getElem (by rw [rowEnt_len]; exact h)]
  simp [rowEnt]
theorem tabU_pre (first : Bool) (k : Nat) : ∀ d, tabU first k <+: tabU first (k + d)
  | 0 => List.prefix_refl _
  | d + 1 => (tabU_pre first k d).trans ⟨_, rfl⟩
theorem tabU_tab (first : Bool) (k i : Nat) (hk : k < 27) : tabU first k ++ (rowEnt first k (rowN k)).take i <+: tab first := by
  have h := tabU_pre first (k + 1) (27 - (k + 1))
  rw [show k + 1 + (27 - (k + 1)) = 27 by omega] at h
  refine List.IsPrefix.trans ?_ h
  rw [tabU, List.prefix_append_right_inj]
  exact List.take_prefix _ _
theorem tabU_lt (first : Bool) (k i : Nat) (hk : k < 27) (hi : i < (rowN k).length) : (tabU first k ++ (rowEnt first k (rowN k)).take i).length < (tab first).length := by
  have h := (tabU_tab first k (i + 1) hk).length_le
  rw [rowEnt_take _ _ _ _ hi] at h
  simp at h ⊢
  omega
def rowS (k : Nat) : List UInt8 := joinS (rowN k)
theorem fields_row : ∀ k, k < 27 → Lib.fields (rowS k) = (rowN k).map cs := by decide +kernel
theorem rowS_small : ∀ k, k < 27 → (rowS k).length < 200 ∧ ∀ b ∈ rowS k, b.toNat < 128 := by decide +kernel
theorem rowN_small : ∀ k, k < 27 → (rowN k).length ≤ 15 := by decide +kernel
theorem rowC_len : rowC.length = 27 := rfl

end Cf
end Go.Proofs.YteigdcbaojmfgaaDoor
