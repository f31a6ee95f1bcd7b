/- What the transform comes to: rows, and then columns. | cosine.Line. -/
import Derived.Test.YtbmglemjfodfhaaGreatMgCosE
import Derived.Deep.Cut
set_option linter.unusedVariables false
set_option linter.unusedSimpArgs false

namespace Go.Proofs.YtbmglemjfodfhaaGreat
namespace Co

theorem accW_congr {l m : Nat → Int} {x n : Nat} (h : ∀ u, u < n → l u = m u) : accW l x n = accW m x n := by
  induction n with
  | zero => rfl
  | succ n ih =>
    have e := ih fun u hu => h u (by omega)
    have e2 := h n (by omega)
    simp only [accW, e, e2]
def rowsC (f : Nat → Int) (i : Nat) : Int := accW (fun u => f (8 * (i / 8) + u)) (i % 8) 8
def colsC (f : Nat → Int) (i : Nat) : Int := accW (fun u => f (8 * u + i % 8)) (i / 8) 8
theorem getAll_k (f : Nat → Int) (a s k : Nat) (hk : k ≤ 8) (j : Nat) : getAll f a s (first8 k) j = if j < k then f (a + j * s) else 0 := by
  induction k with
  | zero => rfl
  | succ k ih =>
    rw [← first8_succ k (by omega), getAll_snoc]
    show (if j = k then f (a + k * s) else getAll f a s (first8 k) j) = _
    rw [ih (by omega)]
    by_cases h : j = k
    · subst h; rw [if_pos rfl, if_pos (by omega)]
    · rw [if_neg h]
      by_cases g : j < k
      · rw [if_pos g, if_pos (by omega)]
      · rw [if_neg g, if_neg (by omega)]
theorem putAll_k (m : Nat → Int) (a s k : Nat) (hs : 1 ≤ s) (hk : k ≤ 8) (f : Nat → Int) (p : Nat) : putAll m a s (first8 k) f p = if a ≤ p ∧ (p - a) % s = 0 ∧ (p - a) / s < k then m ((p - a) / s) else f p := by
  induction k with
  | zero => rw [if_neg (fun h => Nat.not_lt_zero _ h.2.2)]; rfl
  | succ k ih =>
    rw [← first8_succ k (by omega), putAll_snoc]
    show (if p = a + k * s then m k else putAll m a s (first8 k) f p) = _
    rw [ih (by omega)]
    by_cases h : p = a + k * s
    · subst h
      rw [if_pos rfl]
      have e : a + k * s - a = k * s := by omega
      rw [e, Nat.mul_mod_left, Nat.mul_div_cancel _ (by omega : 0 < s), if_pos ⟨by omega, rfl, by omega⟩]
    · rw [if_neg h]
      by_cases g : a ≤ p ∧ (p - a) % s = 0 ∧ (p - a) / s < k
      · rw [if_pos g, if_pos ⟨g.1, g.2.1, by omega⟩]
      · rw [if_neg g, if_neg]
        rintro ⟨g1, g2, g3⟩
        have hk : (p - a) / s = k := by
          rcases Nat.lt_or_ge ((p - a) / s) k with l | l
          · exact absurd ⟨g1, g2, l⟩ g
          · omega
        have := Nat.div_add_mod (p - a) s
        rw [g2, hk, Nat.mul_comm] at this
        omega
theorem lineAt_at (b s : Nat) (hs : 1 ≤ s) (f : Nat → Int) (i : Fin 8) (p : Nat) : lineAt b s f i p = if i.val * b ≤ p ∧ (p - i.val * b) % s = 0 ∧ (p - i.val * b) / s < 8 then accW (fun u => f (i.val * b + u * s)) ((p - i.val * b) / s) 8 else f p := by
  unfold lineAt
  rw [← first8_all, putAll_k _ _ _ _ hs (by omega)]
  by_cases h : i.val * b ≤ p ∧ (p - i.val * b) % s = 0 ∧ (p - i.val * b) / s < 8
  · rw [if_pos h, if_pos h]
    exact accW_congr fun u hu => by rw [getAll_k _ _ _ _ (by omega), if_pos hu]
  · rw [if_neg h, if_neg h]
theorem rows_k (f : Nat → Int) (k : Nat) (hk : k ≤ 8) (i : Nat) : eachF 8 1 f (first8 k) i = if i / 8 < k then rowsC f i else f i := by
  induction k generalizing i with
  | zero => rw [if_neg (by omega)]; rfl
  | succ k ih =>
    rw [← first8_succ k (by omega), eachF_snoc, lineAt_at _ _ (by omega)]
    show (if k * 8 ≤ i ∧ (i - k * 8) % 1 = 0 ∧ (i - k * 8) / 1 < 8 then accW (fun u => eachF 8 1 f (first8 k) (k * 8 + u * 1)) ((i - k * 8) / 1) 8 else eachF 8 1 f (first8 k) i) = _
    rw [ih (by omega)]
    by_cases h : i / 8 = k
    · rw [if_pos (by omega), if_pos (by omega)]
      unfold rowsC
      have e1 : (i - k * 8) / 1 = i % 8 := by omega
      rw [e1]
      refine accW_congr fun u hu => ?_
      rw [ih (by omega), if_neg (by omega)]
      congr 1; omega
    · rw [if_neg (by omega)]
      by_cases g : i / 8 < k
      · rw [if_pos g, if_pos (by omega)]
      · rw [if_neg g, if_neg (by omega)]
theorem cols_k (f : Nat → Int) (k : Nat) (hk : k ≤ 8) (i : Nat) (hi : i < 64) : eachF 1 8 f (first8 k) i = if i % 8 < k then colsC f i else f i := by
  induction k generalizing i with
  | zero => rw [if_neg (by omega)]; rfl
  | succ k ih =>
    rw [← first8_succ k (by omega), eachF_snoc, lineAt_at _ _ (by omega)]
    show (if k * 1 ≤ i ∧ (i - k * 1) % 8 = 0 ∧ (i - k * 1) / 8 < 8 then accW (fun u => eachF 1 8 f (first8 k) (k * 1 + u * 8)) ((i - k * 1) / 8) 8 else eachF 1 8 f (first8 k) i) = _
    rw [ih (by omega) i hi]
    by_cases h : i % 8 = k
    · rw [if_pos (by omega), if_pos (by omega)]
      unfold colsC
      have e1 : (i - k * 1) / 8 = i / 8 := by omega
      rw [e1]
      refine accW_congr fun u hu => ?_
      rw [ih (by omega) _ (by omega), if_neg (by omega)]
      congr 1; omega
    · rw [if_neg (by omega)]
      by_cases g : i % 8 < k
      · rw [if_pos g, if_pos (by omega)]
      · rw [if_neg g, if_neg (by omega)]
theorem each_rows (f : Nat → Int) (i : Nat) (hi : i < 64) : eachF 8 1 f (List.finRange 8) i = rowsC f i := by
  rw [← first8_all, rows_k f 8 (by omega), if_pos (by omega)]
theorem each_cols (f : Nat → Int) (i : Nat) (hi : i < 64) : eachF 1 8 f (List.finRange 8) i = colsC f i := by
  rw [← first8_all, cols_k f 8 (by omega) i hi, if_pos (by omega)]
end Co
end Go.Proofs.YtbmglemjfodfhaaGreat

namespace Go.Proofs.YtbmglemjfodfhaaGreat
open Go.RowKit

theorem Ints.range {w : World} {k : IntKind} {b o n : Nat} {f : Nat → Int} (h : Ints w k b o n f) : w.rangeAt b o ((List.range n).map fun i => Value.int k (f i)) := by
  intro j u hu
  have hj : j < n := by
    have := (List.getElem?_eq_some_iff.1 hu).1
    simpa using this
  rw [h j hj]
  simpa [hj] using hu
/-- numbers of a slice, loaded as an array. -/
theorem wpList_load_ints {P : Program} {ops : Array Oper} {rest : List Oper} {o : Oper} {a : Act} {w : World} {Q : Exit → Act → World → Prop} (hgd : o.guard = none) (ty : TypeId) (x : Operand) (ho : o.op = .load ty x)
    {k : IntKind} {g off n m : Nat} {f : Nat → Int} {e : TypeId} (hx : a.eval x = .pointer (some ⟨g, off, none⟩)) (h : Ints w k g off n f) (hu : P.underlying ty = some (.array m e)) (hi : (P.info? ty).map (·.size) = some n)
    (hK : wpList P ops Q rest (a.put o.dst (.agg (rowOf k n f))) w) : wpList P ops Q (o :: rest) a w :=
  wpList_load_mid hgd ty x ho g off hx ((List.range n).map fun i => Value.int k (f i)) (.array m e) h.range hu rfl (by simpa using hi) hK
theorem run_arrayAt {P : Program} (w : World) {ty e : TypeId} {m n c : Nat} {a : Option Addr} (hu : P.underlying ty = some (.array m e)) (h : m ≤ n) : (Instr.arrayAt ty (.slice a n c)).run P w = .ok (.pointer a) w := by
  have : ¬ n < m := by omega
  simp [Instr.arrayAt, run_underlying hu w, this]
namespace Co

def inR (lo hi x : Int) : Bool := decide (lo ≤ x ∧ x ≤ hi)
theorem inR_yes {lo hi x : Int} (h : inR lo hi x = true) : lo ≤ x ∧ x ≤ hi := by unfold inR at h; simpa using h
theorem inR_no {lo hi x : Int} (h : inR lo hi x = false) : x < lo ∨ hi < x := by unfold inR at h; simp only [decide_eq_false_iff_not] at h; omega
/-- may the first k numbers all be taken? -/
def okR (lo hi : Int) (f : Nat → Int) (k : Nat) : Bool := (List.range k).all fun i => inR lo hi (f i)
theorem okR_succ (lo hi : Int) (f : Nat → Int) (k : Nat) : okR lo hi f (k + 1) = (okR lo hi f k && inR lo hi (f k)) := by unfold okR; rw [List.range_succ]; simp
theorem okR_at {lo hi : Int} {f : Nat → Int} {k : Nat} (h : okR lo hi f k = true) (i : Nat) (hik : i < k) : inR lo hi (f i) = true := by
  unfold okR at h; rw [List.all_eq_true] at h; exact h i (List.mem_range.2 hik)
theorem okR_not {lo hi : Int} {f : Nat → Int} {k i : Nat} (hik : i < k) (h : inR lo hi (f i) = false) : okR lo hi f k = false := by
  cases e : okR lo hi f k
  · rfl
  · rw [okR_at e i hik] at h; cases h
theorem okR_all {lo hi : Int} {f : Nat → Int} {k : Nat} (h : ∀ i, i < k → lo ≤ f i ∧ f i ≤ hi) : okR lo hi f k = true := by
  unfold okR; rw [List.all_eq_true]; intro i hik
  have := h i (List.mem_range.1 hik)
  unfold inR; simp; omega
def okL (f : Nat → Int) (k : Nat) : Bool := okR (-1099511627776) 1099511627776 f k
/-- the error of Line, and how many numbers it tells. -/
def lE (n : Nat) (f : Nat → Int) : Int := if n = 8 then (if okL f 8 then 0 else 3) else 2
def lN (n : Nat) (f : Nat → Int) : Nat := if n = 8 then (if okL f 8 then 8 else 0) else 0
def lineC (f : Nat → Int) (x : Nat) : Int := accW f x 8
/-- what Line comes to. -/
def Lines (w : World) (n : Nat) (f : Nat → Int) (e : Ending) (w' : World) : Prop :=
  ∃ v, e = .returned (.tuple #[v, .int .i64 (lE n f)]) ∧ Res .i64 w.heap.size w' v (lN n f) (lineC f) ∧ Below w.heap.size w w'

end Co
end Go.Proofs.YtbmglemjfodfhaaGreat
