/- The table of codes, plain. | How the document's table of codes is read off its rows, plain. -/
import Derived.Test.YtpibeocngkjolaaGreatDoorMgCfB
import Derived.Lib.Fields
set_option linter.unusedVariables false
set_option linter.unusedSimpArgs false

namespace Go.Proofs.YtpibeocngkjolaaGreatDoor
open Go.RowKit
set_option linter.unusedSimpArgs false
set_option linter.unusedVariables false
namespace Cf

def bch (b : Bool) : UInt8 := if b then 49 else 48
/-- a code as bytes. -/
def cs (l : List Bool) : List UInt8 := l.map bch
def sv (l : List UInt8) : Value := .string ⟨l.toArray⟩
def rowC : List (List (List Bool)) := [
  [[true, true], [false, true, false, false], [false, false, true, false, true], [false, false, false, false, true, true, false], [false, false, true, false, false, true, true, false], [false, false, true, false, false, false, false, true], [false, false, false, false, false, false, true, false, true, false], [false, false, false, false, false, false, false, true, true, true, false, true], [false, false, false, false, false, false, false, true, true, false, false, false], [false, false, false, false, false, false, false, true, false, false, true, true], [false, false, false, false, false, false, false, true, false, false, false, false], [false, false, false, false, false, false, false, false, true, true, false, true, false], [false, false, false, false, false, false, false, false, true, true, false, false, true], [false, false, false, false, false, false, false, false, true, true, false, false, false], [false, false, false, false, false, false, false, false, true, false, true, true, true]],
  [[false, true, true], [false, false, false, true, true, false], [false, false, true, false, false, true, false, true], [false, false, false, false, false, false, true, true, false, false], [false, false, false, false, false, false, false, true, true, false, true, true], [false, false, false, false, false, false, false, false, true, false, true, true, false], [false, false, false, false, false, false, false, false, true, false, true, false, true]],
  [[false, true, false, true], [false, false, false, false, true, false, false], [false, false, false, false, false, false, true, false, true, true], [false, false, false, false, false, false, false, true, false, true, false, false], [false, false, false, false, false, false, false, false, true, false, true, false, false]],
  [[false, false, true, true, true], [false, false, true, false, false, true, false, false], [false, false, false, false, false, false, false, true, true, true, false, false], [false, false, false, false, false, false, false, false, true, false, false, true, true]],
  [[false, false, true, true, false], [false, false, false, false, false, false, true, true, true, true], [false, false, false, false, false, false, false, true, false, false, true, false]],
  [[false, false, false, true, true, true], [false, false, false, false, false, false, true, false, false, true], [false, false, false, false, false, false, false, false, true, false, false, true, false]],
  [[false, false, false, true, false, true], [false, false, false, false, false, false, false, true, true, true, true, false]],
  [[false, false, false, true, false, false], [false, false, false, false, false, false, false, true, false, true, false, true]],
  [[false, false, false, false, true, true, true], [false, false, false, false, false, false, false, true, false, false, false, true]],
  [[false, false, false, false, true, false, true], [false, false, false, false, false, false, false, false, true, false, false, false, true]],
  [[false, false, true, false, false, true, true, true], [false, false, false, false, false, false, false, false, true, false, false, false, false]],
  [[false, false, true, false, false, false, true, true]],
  [[false, false, true, false, false, false, true, false]],
  [[false, false, true, false, false, false, false, false]],
  [[false, false, false, false, false, false, true, true, true, false]],
  [[false, false, false, false, false, false, true, true, false, true]],
  [[false, false, false, false, false, false, true, false, false, false]],
  [[false, false, false, false, false, false, false, true, true, true, true, true]],
  [[false, false, false, false, false, false, false, true, true, false, true, false]],
  [[false, false, false, false, false, false, false, true, true, false, false, true]],
  [[false, false, false, false, false, false, false, true, false, true, true, true]],
  [[false, false, false, false, false, false, false, true, false, true, true, false]],
  [[false, false, false, false, false, false, false, false, true, true, true, true, true]],
  [[false, false, false, false, false, false, false, false, true, true, true, true, false]],
  [[false, false, false, false, false, false, false, false, true, true, true, false, true]],
  [[false, false, false, false, false, false, false, false, true, true, true, false, false]],
  [[false, false, false, false, false, false, false, false, true, true, false, true, true]]]
def joinS : List (List Bool) → List UInt8
  | [] => []
  | [c] => cs c
  | c :: l => cs c ++ (32 :: joinS l)
structure Ent where
  (run lvl : Nat) (code : List Bool)
deriving DecidableEq
def rowEnt (first : Bool) (run : Nat) (row : List (List Bool)) : List Ent := (List.range row.length).map fun i => ⟨run, i + 1, if first && run == 0 && i == 0 then [true] else row.getD i []⟩
def rowN (k : Nat) : List (List Bool) := rowC.getD k []
/-- the first k rows. -/
def tabU (first : Bool) : Nat → List Ent
  | 0 => []
  | k + 1 => tabU first k ++ rowEnt first k (rowN k)
def tab (first : Bool) : List Ent := tabU first 27
theorem rowEnt_len (first : Bool) (run : Nat) (row : List (List Bool)) : (rowEnt first run row).length = row.length := by simp [rowEnt]
theorem rowEnt_take (first : Bool) (run : Nat) (row : List (List Bool)) (i : Nat) (h : i < row.length) : (rowEnt first run row).take (i + 1) = (rowEnt first run row).take i ++ [⟨run, i + 1, if first && run == 0 && i == 0 then [true] else row.getD i []⟩] := by
  rw [List.take_succ_eq_append_getElem (by rw [rowEnt_len]; exact h)]
  simp [rowEnt]
theorem tabU_pre (first : Bool) (k : Nat) : ∀ d, tabU first k <+: tabU first (k + d)
  | 0 => List.prefix_refl _
  | d + 1 => (tabU_pre first k d).trans ⟨_, rfl⟩
theorem tabU_tab (first : Bool) (k i : Nat) (hk : k < 27) : tabU first k ++ (rowEnt first k (rowN k)).take i <+: tab first := by
  have h := tabU_pre first (k + 1) (27 - (k + 1))
  rw [show k + 1 + (27 - (k + 1)) = 27 by omega] at h
  refine List.IsPrefix.trans ?_ h
  rw [tabU, List.prefix_append_right_inj]
  exact List.take_prefix _ _
theorem tabU_lt (first : Bool) (k i : Nat) (hk : k < 27) (hi : i < (rowN k).length) : (tabU first k ++ (rowEnt first k (rowN k)).take i).length < (tab first).length := by
  have h := (tabU_tab first k (i + 1) hk).length_le
  rw [rowEnt_take _ _ _ _ hi] at h
  simp at h ⊢
  omega
def rowS (k : Nat) : List UInt8 := joinS (rowN k)
theorem fields_row : ∀ k, k < 27 → Lib.fields (rowS k) = (rowN k).map cs := by decide +kernel
theorem rowS_small : ∀ k, k < 27 → (rowS k).length < 200 ∧ ∀ b ∈ rowS k, b.toNat < 128 := by decide +kernel
theorem rowN_small : ∀ k, k < 27 → (rowN k).length ≤ 15 := by decide +kernel
theorem rowC_len : rowC.length = 27 := rfl

end Cf
end Go.Proofs.YtpibeocngkjolaaGreatDoor

namespace Go.Proofs.YtpibeocngkjolaaGreatDoor
open Go.RowKit
set_option linter.unusedSimpArgs false
set_option linter.unusedVariables false
namespace Cf
theorem cs_inj : ∀ {a b : List Bool}, cs a = cs b → a = b
  | [], [], _ => rfl
  | [], _ :: _, h => by simp [cs] at h
  | _ :: _, [], h => by simp [cs] at h
  | x :: a, y :: b, h => by
    simp only [cs, List.map_cons, List.cons.injEq] at h
    rw [cs_inj h.2]
    congr 1
    cases x <;> cases y <;> first | rfl | (exfalso; revert h; intro h; exact absurd h.1 (by decide))
/-- behind i letters of a row: how many codes are over, where the next one begins. -/
def sc (s : List UInt8) : Nat → Nat × Nat
  | 0 => (0, 0)
  | i + 1 => if i = s.length ∨ s[i]? = some 32 then ((sc s i).1 + 1, i + 1) else sc s i
def cutAt (s : List UInt8) (i : Nat) : Bool := decide (i = s.length) || s[i]? == some 32
def scT (s : List UInt8) (row : List (List Bool)) (i : Nat) : Bool :=
  let a := sc s i
  decide (a.2 ≤ i) && decide (a.1 ≤ row.length) && (!cutAt s i || (decide (a.1 < row.length) && (((s.take i).drop a.2) == cs (row.getD a.1 []))))
theorem sc_all : ∀ k, k < 27 → (∀ i, i < (rowS k).length + 1 → scT (rowS k) (rowN k) i = true) ∧ (sc (rowS k) ((rowS k).length + 1)).1 = (rowN k).length := by decide +kernel
theorem sc_step (s : List UInt8) (i : Nat) : sc s (i + 1) = if cutAt s i then ((sc s i).1 + 1, i + 1) else sc s i := by
  unfold cutAt
  rw [sc]
  by_cases h : i = s.length ∨ s[i]? = some 32
  · rw [if_pos h, if_pos (by rcases h with h | h <;> simp [h])]
  · rw [if_neg h, if_neg (by simpa using h)]
theorem sc_at {k i : Nat} (hk : k < 27) (hi : i ≤ (rowS k).length) : (sc (rowS k) i).2 ≤ i ∧ (sc (rowS k) i).1 ≤ (rowN k).length ∧ (cutAt (rowS k) i = true → (sc (rowS k) i).1 < (rowN k).length ∧ ((rowS k).take i).drop (sc (rowS k) i).2 = cs ((rowN k).getD (sc (rowS k) i).1 [])) := by
  have h := (sc_all k hk).1 i (by omega)
  unfold scT at h
  simp only [Bool.and_eq_true, decide_eq_true_eq, Bool.or_eq_true, Bool.not_eq_true', beq_iff_eq] at h
  exact ⟨h.1.1, h.1.2, fun hc => by
    rcases h.2 with h2 | h2
    · rw [hc] at h2; cases h2
    · exact h2⟩
theorem tab_len : ∀ first, (tab first).length = 63 := by decide +kernel
/-- the entries' cells. -/
def pairC (l : List Ent) : List Value := l.flatMap fun e => [.int .i64 e.run, .int .i64 e.lvl]
def codeC (l : List Ent) : List Value := l.map fun e => sv (cs e.code)
theorem pairC_snoc (l : List Ent) (e : Ent) : pairC (l ++ [e]) = pairC l ++ [.int .i64 e.run, .int .i64 e.lvl] := by simp [pairC]
theorem codeC_snoc (l : List Ent) (e : Ent) : codeC (l ++ [e]) = codeC l ++ [sv (cs e.code)] := by simp [codeC]
theorem pairC_get (l : List Ent) (i : Nat) (h : i < l.length) : (pairC l)[2 * i]? = some (.int .i64 l[i].run) ∧ (pairC l)[2 * i + 1]? = some (.int .i64 l[i].lvl) := by
  induction l generalizing i with
  | nil => simp at h
  | cons a t ih =>
    cases i with
    | zero => simp [pairC]
    | succ j =>
      have h2 := ih j (by simpa using h)
      have e : pairC (a :: t) = .int .i64 a.run :: .int .i64 a.lvl :: pairC t := by simp [pairC]
      rw [e, show 2 * (j + 1) = 2 * j + 1 + 1 by omega]
      simpa using h2
theorem codeC_get (l : List Ent) (i : Nat) (h : i < l.length) : (codeC l)[i]? = some (sv (cs l[i].code)) := by simp [codeC, h]
/-- row k's entries, up to those that are over behind i letters. -/
def rowT (k i : Nat) : List Ent := tabU false k ++ (rowEnt false k (rowN k)).take (sc (rowS k) i).1
theorem rowT_0 (k : Nat) : rowT k 0 = tabU false k := by simp [rowT, sc]
theorem rowT_stay {k i : Nat} (h : cutAt (rowS k) i = false) : rowT k (i + 1) = rowT k i := by unfold rowT; rw [sc_step, h]; rfl
theorem rowT_cut {k i : Nat} (hk : k < 27) (hi : i ≤ (rowS k).length) (h : cutAt (rowS k) i = true) : rowT k (i + 1) = rowT k i ++ [⟨k, (sc (rowS k) i).1 + 1, (rowN k).getD (sc (rowS k) i).1 []⟩] := by
  have h2 := ((sc_at hk hi).2.2 h).1
  unfold rowT
  rw [sc_step, h, if_pos rfl, rowEnt_take _ _ _ _ h2]
  simp
theorem rowT_end {k : Nat} (hk : k < 27) : rowT k ((rowS k).length + 1) = tabU false (k + 1) := by
  unfold rowT
  rw [(sc_all k hk).2, tabU, List.take_of_length_le (by rw [rowEnt_len]; exact Nat.le_refl _)]
theorem rowT_le {k i : Nat} (hk : k < 27) : (rowT k i).length ≤ 63 := by
  have h := (tabU_tab false k (sc (rowS k) i).1 hk).length_le
  rw [tab_len] at h
  exact h
end Cf
end Go.Proofs.YtpibeocngkjolaaGreatDoor
