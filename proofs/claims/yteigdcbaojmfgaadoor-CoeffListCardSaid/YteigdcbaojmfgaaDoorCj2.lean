/- CoeffList. -/
import Derived.Test.YteigdcbaojmfgaaDoorCiZ
import Derived.Deep.DeepCutAuto
namespace Go.Proofs.YteigdcbaojmfgaaDoor
open Go.RowKit
set_option linter.unusedSimpArgs false
set_option linter.unusedVariables false
namespace Cf
/-- the k-th text. -/
def piece (first : Bool) (R L : Nat → Int) (k : Nat) : List Bool := putB (first && decide (k = 0)) (R k) (L k)
/-- the first k texts. -/
def TL (first : Bool) (R L : Nat → Int) : Nat → List Bool
  | 0 => []
  | k + 1 => TL first R L k ++ piece first R L k
theorem TL_len (first : Bool) (R L : Nat → Int) : ∀ k, (TL first R L k).length ≤ 20 * k
  | 0 => by simp [TL]
  | k + 1 => by
    have := TL_len first R L k
    have := (put_len (first && decide (k = 0)) (R k) (L k)).2
    simp only [TL, piece, List.length_append]
    omega
theorem TL_pre (first : Bool) (R L : Nat → Int) (k : Nat) : ∀ n, k ≤ n → TL first R L k <+: TL first R L n
  | 0, h => by obtain rfl : k = 0 := by omega
               exact List.prefix_refl _
  | n + 1, h => by
    by_cases e : k = n + 1
    · rw [e]
      exact List.prefix_refl _
    · exact (TL_pre first R L k n (by omega)).trans (List.prefix_append _ _)
theorem TL_at (first : Bool) (R L : Nat → Int) (e : List Bool) {k n : Nat} (h : k < n) : piece first R L k <+: (TL first R L n ++ e).drop (TL first R L k).length := by
  obtain ⟨t, ht⟩ := TL_pre first R L (k + 1) n h
  rw [← ht]
  refine ⟨t ++ e, ?_⟩
  simp [TL, List.append_assoc]
/-- the pairs' cells. -/
def prC (R L : Nat → Int) (k : Nat) : List Value := (List.range k).flatMap fun i => [.int .i64 (R i), .int .i64 (L i)]
theorem prC_succ (R L : Nat → Int) (k : Nat) : prC R L (k + 1) = prC R L k ++ [.int .i64 (R k), .int .i64 (L k)] := by
  unfold prC
  rw [List.range_succ, List.flatMap_append]
  simp
theorem prC_len (R L : Nat → Int) : ∀ k, (prC R L k).length = k * 2
  | 0 => rfl
  | k + 1 => by rw [prC_succ, List.length_append, prC_len R L k]; simp; omega
theorem prC_get (R L : Nat → Int) (i : Nat) : ∀ k, i < k → (prC R L k)[i * 2]? = some (.int .i64 (R i)) ∧ (prC R L k)[i * 2 + 1]? = some (.int .i64 (L i))
  | 0, h => by omega
  | k + 1, h => by
    rw [prC_succ]
    have hl := prC_len R L k
    by_cases e : i = k
    · subst e
      rw [List.getElem?_append_right (by omega), List.getElem?_append_right (by omega), hl]
      simp
    · have := prC_get R L i k (by omega)
      rw [List.getElem?_append_left (by omega), List.getElem?_append_left (by omega)]
      exact this
/-- what Get finds at the k-th text's place, and at the end. -/
theorem get_piece {first : Bool} {R L : Nat → Int} {k n : Nat} (hk : k < n) (hp : pairB (R k) (L k) = true) (g : Nat → Int) (e : List Bool) (he : e = [true, false]) :
    getF (byV (jnF (TL first R L n ++ e) g) ((TL first R L n ++ e).length + 0)) (((TL first R L n ++ e).length + 0 + 7) / 8) ((TL first R L k).length : Nat) (first && decide (k = 0)) = ⟨R k, L k, false, ((piece first R L k).length : Nat), 0⟩ := by
  have hat := TL_at first R L e hk
  have hpl := put_len (first && decide (k = 0)) (R k) (L k)
  have hle := hat.length_le
  rw [List.length_drop] at hle
  have hq : (TL first R L k).length + (piece first R L k).length ≤ (TL first R L n ++ e).length := by
    have : 1 ≤ (piece first R L k).length := by unfold piece; omega
    omega
  unfold getF
  rw [if_neg (by omega), if_neg (by omega), Int.toNat_natCast]
  have hpre : piece first R L k <+: seenL (byV (jnF (TL first R L n ++ e) g) ((TL first R L n ++ e).length + 0)) (TL first R L k).length (seenN (((TL first R L n ++ e).length + 0 + 7) / 8) (TL first R L k).length) :=
    seen_at (K := 0) (L := TL first R L n ++ e) (fun i hi => jn_bit _ g 0 i hi) hat (by unfold seenN; have : (piece first R L k).length ≤ 20 := hpl.2; omega)
  exact put_got hp (by rw [seenL_len]; unfold seenN; omega) hpre
theorem get_fin {first : Bool} {R L : Nat → Int} {n : Nat} (g : Nat → Int) (e : List Bool) (he : e = [true, false]) :
    getF (byV (jnF (TL first R L n ++ e) g) ((TL first R L n ++ e).length + 0)) (((TL first R L n ++ e).length + 0 + 7) / 8) ((TL first R L n).length : Nat) false = ⟨0, 0, true, 2, 0⟩ := by
  have hq : (TL first R L n).length + 2 = (TL first R L n ++ e).length := by rw [he]; simp
  unfold getF
  rw [if_neg (by omega), if_neg (by omega), Int.toNat_natCast]
  have hpre : [true, false] <+: seenL (byV (jnF (TL first R L n ++ e) g) ((TL first R L n ++ e).length + 0)) (TL first R L n).length (seenN (((TL first R L n ++ e).length + 0 + 7) / 8) (TL first R L n).length) :=
    seen_at (K := 0) (L := TL first R L n ++ e) (fun i hi => jn_bit _ g 0 i hi) (by rw [List.drop_left' rfl, he]; exact List.prefix_refl _) (by unfold seenN; simp only [List.length_cons, List.length_nil]; omega)
  exact fin_got hpre
end Cf
end Go.Proofs.YteigdcbaojmfgaaDoor
