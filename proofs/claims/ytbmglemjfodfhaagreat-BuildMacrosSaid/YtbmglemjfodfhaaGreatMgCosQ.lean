/- What the transform comes to: rows, and then columns. | cosine.Line. | cosine.Inverse. | The document's weights and Line. | The document's Inverse. -/
import Derived.Test.YtbmglemjfodfhaaGreatMgCosE
import Derived.BigQuiet
import Derived.BigRegion
import Derived.Deep.Cut
import Derived.Deep.RegionHeld3
set_option linter.unusedVariables false
set_option linter.unusedSimpArgs false

namespace Go.Proofs.YtbmglemjfodfhaaGreat
namespace Co

theorem accW_congr {l m : Nat → Int} {x n : Nat} (h : ∀ u, u < n → l u = m u) : accW l x n = accW m x n := by
  induction n with
  | zero => rfl
  | succ n ih =>
    have e := ih fun u hu => h u (by omega)
    have e2 := h n (by omega)
    simp only [accW, e, e2]
def rowsC (f : Nat → Int) (i : Nat) : Int := accW (fun u => f (8 * (i / 8) + u)) (i % 8) 8
def colsC (f : Nat → Int) (i : Nat) : Int := accW (fun u => f (8 * u + i % 8)) (i / 8) 8
theorem getAll_k (f : Nat → Int) (a s k : Nat) (hk : k ≤ 8) (j : Nat) : getAll f a s (first8 k) j = if j < k then f (a + j * s) else 0 := by
  induction k with
  | zero => rfl
  | succ k ih =>
    rw [← first8_succ k (by omega), getAll_snoc]
    show (if j = k then f (a + k * s) else getAll f a s (first8 k) j) = _
    rw [ih (by omega)]
    by_cases h : j = k
    · subst h; rw [if_pos rfl, if_pos (by omega)]
    · rw [if_neg h]
      by_cases g : j < k
      · rw [if_pos g, if_pos (by omega)]
      · rw [if_neg g, if_neg (by omega)]
theorem putAll_k (m : Nat → Int) (a s k : Nat) (hs : 1 ≤ s) (hk : k ≤ 8) (f : Nat → Int) (p : Nat) : putAll m a s (first8 k) f p = if a ≤ p ∧ (p - a) % s = 0 ∧ (p - a) / s < k then m ((p - a) / s) else f p := by
  induction k with
  | zero => rw [if_neg (fun h => Nat.not_lt_zero _ h.2.2)]; rfl
  | succ k ih =>
    rw [← first8_succ k (by omega), putAll_snoc]
    show (if p = a + k * s then m k else putAll m a s (first8 k) f p) = _
    rw [ih (by omega)]
    by_cases h : p = a + k * s
    · subst h
      rw [if_pos rfl]
      have e : a + k * s - a = k * s := by omega
      rw [e, Nat.mul_mod_left, Nat.mul_div_cancel _ (by omega : 0 < s), if_pos ⟨by omega, rfl, by omega⟩]
    · rw [if_neg h]
      by_cases g : a ≤ p ∧ (p - a) % s = 0 ∧ (p - a) / s < k
      · rw [if_pos g, if_pos ⟨g.1, g.2.1, by omega⟩]
      · rw [if_neg g, if_neg]
        rintro ⟨g1, g2, g3⟩
        have hk : (p - a) / s = k := by
          rcases Nat.lt_or_ge ((p - a) / s) k with l | l
          · exact absurd ⟨g1, g2, l⟩ g
          · omega
        have := Nat.div_add_mod (p - a) s
        rw [g2, hk, Nat.mul_comm] at this
        omega
theorem lineAt_at (b s : Nat) (hs : 1 ≤ s) (f : Nat → Int) (i : Fin 8) (p : Nat) : lineAt b s f i p = if i.val * b ≤ p ∧ (p - i.val * b) % s = 0 ∧ (p - i.val * b) / s < 8 then accW (fun u => f (i.val * b + u * s)) ((p - i.val * b) / s) 8 else f p := by
  unfold lineAt
  rw [← first8_all, putAll_k _ _ _ _ hs (by omega)]
  by_cases h : i.val * b ≤ p ∧ (p - i.val * b) % s = 0 ∧ (p - i.val * b) / s < 8
  · rw [if_pos h, if_pos h]
    exact accW_congr fun u hu => by rw [getAll_k _ _ _ _ (by omega), if_pos hu]
  · rw [if_neg h, if_neg h]
theorem rows_k (f : Nat → Int) (k : Nat) (hk : k ≤ 8) (i : Nat) : eachF 8 1 f (first8 k) i = if i / 8 < k then rowsC f i else f i := by
  induction k generalizing i with
  | zero => rw [if_neg (by omega)]; rfl
  | succ k ih =>
    rw [← first8_succ k (by omega), eachF_snoc, lineAt_at _ _ (by omega)]
    show (if k * 8 ≤ i ∧ (i - k * 8) % 1 = 0 ∧ (i - k * 8) / 1 < 8 then accW (fun u => eachF 8 1 f (first8 k) (k * 8 + u * 1)) ((i - k * 8) / 1) 8 else eachF 8 1 f (first8 k) i) = _
    rw [ih (by omega)]
    by_cases h : i / 8 = k
    · rw [if_pos (by omega), if_pos (by omega)]
      unfold rowsC
      have e1 : (i - k * 8) / 1 = i % 8 := by omega
      rw [e1]
      refine accW_congr fun u hu => ?_
      rw [ih (by omega), if_neg (by omega)]
      congr 1; omega
    · rw [if_neg (by omega)]
      by_cases g : i / 8 < k
      · rw [if_pos g, if_pos (by omega)]
      · rw [if_neg g, if_neg (by omega)]
theorem cols_k (f : Nat → Int) (k : Nat) (hk : k ≤ 8) (i : Nat) (hi : i < 64) : eachF 1 8 f (first8 k) i = if i % 8 < k then colsC f i else f i := by
  induction k generalizing i with
  | zero => rw [if_neg (by omega)]; rfl
  | succ k ih =>
    rw [← first8_succ k (by omega), eachF_snoc, lineAt_at _ _ (by omega)]
    show (if k * 1 ≤ i ∧ (i - k * 1) % 8 = 0 ∧ (i - k * 1) / 8 < 8 then accW (fun u => eachF 1 8 f (first8 k) (k * 1 + u * 8)) ((i - k * 1) / 8) 8 else eachF 1 8 f (first8 k) i) = _
    rw [ih (by omega) i hi]
    by_cases h : i % 8 = k
    · rw [if_pos (by omega), if_pos (by omega)]
      unfold colsC
      have e1 : (i - k * 1) / 8 = i / 8 := by omega
      rw [e1]
      refine accW_congr fun u hu => ?_
      rw [ih (by omega) _ (by omega), if_neg (by omega)]
      congr 1; omega
    · rw [if_neg (by omega)]
      by_cases g : i % 8 < k
      · rw [if_pos g, if_pos (by omega)]
      · rw [if_neg g, if_neg (by omega)]
theorem each_rows (f : Nat → Int) (i : Nat) (hi : i < 64) : eachF 8 1 f (List.finRange 8) i = rowsC f i := by
  rw [← first8_all, rows_k f 8 (by omega), if_pos (by omega)]
theorem each_cols (f : Nat → Int) (i : Nat) (hi : i < 64) : eachF 1 8 f (List.finRange 8) i = colsC f i := by
  rw [← first8_all, cols_k f 8 (by omega) i hi, if_pos (by omega)]
end Co
end Go.Proofs.YtbmglemjfodfhaaGreat

namespace Go.Proofs.YtbmglemjfodfhaaGreat
open Go.RowKit

theorem Ints.range {w : World} {k : IntKind} {b o n : Nat} {f : Nat → Int} (h : Ints w k b o n f) : w.rangeAt b o ((List.range n).map fun i => Value.int k (f i)) := by
  intro j u hu
  have hj : j < n := by
    have := (List.getElem?_eq_some_iff.1 hu).1
    simpa using this
  rw [h j hj]
  simpa [hj] using hu
/-- numbers of a slice, loaded as an array. -/
theorem wpList_load_ints {P : Program} {ops : Array Oper} {rest : List Oper} {o : Oper} {a : Act} {w : World} {Q : Exit → Act → World → Prop} (hgd : o.guard = none) (ty : TypeId) (x : Operand) (ho : o.op = .load ty x)
    {k : IntKind} {g off n m : Nat} {f : Nat → Int} {e : TypeId} (hx : a.eval x = .pointer (some ⟨g, off, none⟩)) (h : Ints w k g off n f) (hu : P.underlying ty = some (.array m e)) (hi : (P.info? ty).map (·.size) = some n)
    (hK : wpList P ops Q rest (a.put o.dst (.agg (rowOf k n f))) w) : wpList P ops Q (o :: rest) a w :=
  wpList_load_mid hgd ty x ho g off hx ((List.range n).map fun i => Value.int k (f i)) (.array m e) h.range hu rfl (by simpa using hi) hK
theorem run_arrayAt {P : Program} (w : World) {ty e : TypeId} {m n c : Nat} {a : Option Addr} (hu : P.underlying ty = some (.array m e)) (h : m ≤ n) : (Instr.arrayAt ty (.slice a n c)).run P w = .ok (.pointer a) w := by
  have : ¬ n < m := by omega
  simp [Instr.arrayAt, run_underlying hu w, this]
namespace Co

def inR (lo hi x : Int) : Bool := decide (lo ≤ x ∧ x ≤ hi)
theorem inR_yes {lo hi x : Int} (h : inR lo hi x = true) : lo ≤ x ∧ x ≤ hi := by unfold inR at h; simpa using h
theorem inR_no {lo hi x : Int} (h : inR lo hi x = false) : x < lo ∨ hi < x := by unfold inR at h; simp only [decide_eq_false_iff_not] at h; omega
/-- may the first k numbers all be taken? -/
def okR (lo hi : Int) (f : Nat → Int) (k : Nat) : Bool := (List.range k).all fun i => inR lo hi (f i)
theorem okR_succ (lo hi : Int) (f : Nat → Int) (k : Nat) : okR lo hi f (k + 1) = (okR lo hi f k && inR lo hi (f k)) := by unfold okR; rw [List.range_succ]; simp
theorem okR_at {lo hi : Int} {f : Nat → Int} {k : Nat} (h : okR lo hi f k = true) (i : Nat) (hik : i < k) : inR lo hi (f i) = true := by
  unfold okR at h; rw [List.all_eq_true] at h; exact h i (List.mem_range.2 hik)
theorem okR_not {lo hi : Int} {f : Nat → Int} {k i : Nat} (hik : i < k) (h : inR lo hi (f i) = false) : okR lo hi f k = false := by
  cases e : okR lo hi f k
  · rfl
  · rw [okR_at e i hik] at h; cases h
theorem okR_all {lo hi : Int} {f : Nat → Int} {k : Nat} (h : ∀ i, i < k → lo ≤ f i ∧ f i ≤ hi) : okR lo hi f k = true := by
  unfold okR; rw [List.all_eq_true]; intro i hik
  have := h i (List.mem_range.1 hik)
  unfold inR; simp; omega
def okL (f : Nat → Int) (k : Nat) : Bool := okR (-1099511627776) 1099511627776 f k
/-- the error of Line, and how many numbers it tells. -/
def lE (n : Nat) (f : Nat → Int) : Int := if n = 8 then (if okL f 8 then 0 else 3) else 2
def lN (n : Nat) (f : Nat → Int) : Nat := if n = 8 then (if okL f 8 then 8 else 0) else 0
def lineC (f : Nat → Int) (x : Nat) : Int := accW f x 8
/-- what Line comes to. -/
def Lines (w : World) (n : Nat) (f : Nat → Int) (e : Ending) (w' : World) : Prop :=
  ∃ v, e = .returned (.tuple #[v, .int .i64 (lE n f)]) ∧ Res .i64 w.heap.size w' v (lN n f) (lineC f) ∧ Below w.heap.size w w'

end Co
end Go.Proofs.YtbmglemjfodfhaaGreat

namespace Go.Proofs.YtbmglemjfodfhaaGreat
open Go.RowKit
namespace Co

def okV (f : Nat → Int) (k : Nat) : Bool := okR (-2048) 2047 f k
/-- the error of Inverse, and how many numbers it tells. -/
def vE (n : Nat) (f : Nat → Int) : Int := if n = 64 then (if okV f 64 then 0 else 3) else 2
def vN (n : Nat) (f : Nat → Int) : Nat := if n = 64 then (if okV f 64 then 64 else 0) else 0
def invC (f : Nat → Int) (i : Nat) : Int := (colsC (rowsC f) i + 8388608) / 16777216
/-- what Inverse comes to. -/
def Inverts (w : World) (n : Nat) (f : Nat → Int) (e : Ending) (w' : World) : Prop :=
  ∃ v, e = .returned (.tuple #[v, .int .i64 (vE n f)]) ∧ Res .i64 w.heap.size w' v (vN n f) (invC f) ∧ Below w.heap.size w w'

theorem inverse_long (a : Option Addr) (n c : Nat) (f : Nat → Int) (w : World) (h : n ≠ 64) :
    Calls Tryz.prog 96 #[.slice a n c] w (Inverts w n f) := by
  have e1 : vE n f = 2 := by unfold vE; rw [if_neg h]
  have e2 : vN n f = 0 := by unfold vN; rw [if_neg h]
  have k : ((n : Int) == 64) = false := by simp; omega
  have E1 := Lib.hid e1
  have E2 := Lib.hid e2
  clear e1 e2
  go_enter Tryz.func96, Tryz.ntmps96
  go_wp2
  go_ret2
  exact ⟨.slice none 0 0, by rw [E1.out]; rfl, by rw [E2.out]; exact .inl ⟨rfl, rfl⟩, Below.refl _ _⟩

/-- two blocks of the call's own. -/
def TwoFresh (w W : World) (g1 g2 : Nat) : Prop := Arr W .i64 g1 64 (fun _ => 0) ∧ Arr W .i64 g2 64 (fun _ => 0) ∧ g1 ≠ g2 ∧ w.heap.size ≤ g1 ∧ w.heap.size ≤ g2 ∧ Below w.heap.size w W
theorem TwoFresh.swap {w W : World} {g1 g2 : Nat} (h : TwoFresh w W g1 g2) : TwoFresh w W g2 g1 := ⟨h.2.1, h.1, h.2.2.1.symm, h.2.2.2.2.1, h.2.2.2.1, h.2.2.2.2.2⟩
def Zb (t : TypeId) : Obj := .cells (rowOf .i64 64 fun _ => 0) t
theorem zb_new (w : World) (t : TypeId) : Arr (w.alloc (Zb t)) .i64 w.heap.size 64 (fun _ => 0) := Arr.new w .i64 _ t 64 _ (fun i hi => rowOf_get _ _ _ _ hi)
theorem twoA {w w1 : World} {t1 t2 : TypeId} (_h : w = w) (b : Below w.drew.heap.size w.drew w1) : TwoFresh w ((w1.alloc (Zb t1)).alloc (Zb t2)) w1.heap.size (w1.heap.size + 1) := by
  have m1 := (zb_new w1 t1).alloc (Zb t2)
  have m2 := zb_new (w1.alloc (Zb t1)) t2
  rw [World.size_alloc] at m2
  have hb := chain ((Below.refl w.heap.size w).drew) b
  have hz := hb.size
  exact ⟨m1, m2, by omega, by omega, by omega, (hb.alloc hz _).alloc (by simp; omega) _⟩
theorem twoB {w w1 : World} {t1 t2 : TypeId} (_h : w = w) (b : Below (w.alloc (Zb t1)).drew.heap.size (w.alloc (Zb t1)).drew w1) : TwoFresh w (w1.alloc (Zb t2)) w.heap.size w1.heap.size := by
  have hs : (w.alloc (Zb t1)).drew.heap.size = w.heap.size + 1 := by show (w.alloc (Zb t1)).heap.size = _; simp
  have m1 := (((zb_new w t1).drew).below b (by omega)).alloc (Zb t2)
  have m2 := zb_new w1 t2
  have hb := chain (((Below.refl w.heap.size w).alloc (Nat.le_refl _) (Zb t1)).drew) b
  have hz := b.size
  exact ⟨m1, m2, by omega, by omega, by omega, hb.alloc (by omega) _⟩
theorem twoC {w w1 : World} {t1 t2 : TypeId} (_h : w = w) (b : Below ((w.alloc (Zb t1)).alloc (Zb t2)).drew.heap.size ((w.alloc (Zb t1)).alloc (Zb t2)).drew w1) : TwoFresh w w1 w.heap.size (w.heap.size + 1) := by
  have hs : ((w.alloc (Zb t1)).alloc (Zb t2)).drew.heap.size = w.heap.size + 1 + 1 := by show ((w.alloc (Zb t1)).alloc (Zb t2)).heap.size = _; simp
  have m1 := (((zb_new w t1).alloc (Zb t2)).drew).below b (by omega)
  have m2 := ((zb_new (w.alloc (Zb t1)) t2).drew).below b (by simp only [World.size_alloc]; omega)
  rw [World.size_alloc] at m2
  have hb := chain ((((Below.refl w.heap.size w).alloc (Nat.le_refl _) (Zb t1)).alloc (by simp) (Zb t2)).drew) b
  exact ⟨m1, m2, by omega, by omega, by omega, hb⟩

theorem zeros64 : (#[.int .i64 0, .int .i64 0, .int .i64 0, .int .i64 0, .int .i64 0, .int .i64 0, .int .i64 0, .int .i64 0, .int .i64 0, .int .i64 0, .int .i64 0, .int .i64 0, .int .i64 0, .int .i64 0, .int .i64 0, .int .i64 0, .int .i64 0, .int .i64 0, .int .i64 0, .int .i64 0, .int .i64 0, .int .i64 0, .int .i64 0, .int .i64 0, .int .i64 0, .int .i64 0, .int .i64 0, .int .i64 0, .int .i64 0, .int .i64 0, .int .i64 0, .int .i64 0, .int .i64 0, .int .i64 0, .int .i64 0, .int .i64 0, .int .i64 0, .int .i64 0, .int .i64 0, .int .i64 0, .int .i64 0, .int .i64 0, .int .i64 0, .int .i64 0, .int .i64 0, .int .i64 0, .int .i64 0, .int .i64 0, .int .i64 0, .int .i64 0, .int .i64 0, .int .i64 0, .int .i64 0, .int .i64 0, .int .i64 0, .int .i64 0, .int .i64 0, .int .i64 0, .int .i64 0, .int .i64 0, .int .i64 0, .int .i64 0, .int .i64 0, .int .i64 0] : Array Value) = rowOf .i64 64 (fun _ => 0) := by kernel_rfl
section
variable {w W : World} {ga gw : Nat} (h : TwoFresh w W ga gw) (f f2 : Nat → Int)
include h
theorem tf_there1 : W.there ga 0 (rowOf .i64 64 f).size := by rw [rowOf_size]; exact h.1.there
theorem tf_below1 : Below w.heap.size w (W.setCells ga 0 (rowOf .i64 64 f).toList) := h.2.2.2.2.2.grown (grown_setCells ga _ 0 W) h.2.2.2.2.2.size (fun g hg => by cases hg; exact h.2.2.2.1)
theorem tf_arr2 : Arr (W.setCells ga 0 (rowOf .i64 64 f).toList) .i64 gw 64 (fun _ => 0) := h.2.1.grown (grown_setCells ga _ 0 W) (fun e => h.2.2.1 (Option.some.inj e).symm)
theorem tf_arr1 : Arr (W.setCells ga 0 (rowOf .i64 64 f).toList) .i64 ga 64 f := h.1.storeAll .i64 f
omit h in
theorem tf_there2 {W1 : World} (hW : Arr W1 .i64 gw 64 (fun _ => 0)) : W1.there gw 0 (rowOf .i64 64 f2).size := by rw [rowOf_size]; exact hW.there
theorem tf_below2 {W1 : World} (hB : Below w.heap.size w W1) : Below w.heap.size w (W1.setCells gw 0 (rowOf .i64 64 f2).toList) := hB.grown (grown_setCells gw _ 0 _) hB.size (fun g hg => by cases hg; exact h.2.2.2.2.1)
/-- behind both were stored. -/
theorem tf_end {W1 : World} (hA : Arr W1 .i64 ga 64 f) (hW : Arr W1 .i64 gw 64 (fun _ => 0)) (hB : Below w.heap.size w W1) : ∃ ga' gw', Value.pointer (some ⟨ga, 0, none⟩) = .pointer (some ⟨ga', 0, none⟩) ∧ Value.pointer (some ⟨gw, 0, none⟩) = .pointer (some ⟨gw', 0, none⟩) ∧ ga' ≠ gw' ∧ w.heap.size ≤ ga' ∧ w.heap.size ≤ gw' ∧ Arr (W1.setCells gw 0 (rowOf .i64 64 f2).toList) .i64 ga' 64 f ∧ Arr (W1.setCells gw 0 (rowOf .i64 64 f2).toList) .i64 gw' 64 f2 ∧ Below w.heap.size w (W1.setCells gw 0 (rowOf .i64 64 f2).toList) :=
  ⟨ga, gw, rfl, rfl, h.2.2.1, h.2.2.2.1, h.2.2.2.2.1, hA.grown (grown_setCells gw _ 0 _) (fun e => h.2.2.1 (Option.some.inj e)), hW.storeAll .i64 f2, tf_below2 h f2 hB⟩
end
theorem size64 (t : TypeId) (f : Nat → Int) (h : (Tryz.prog.info? t).map (·.size) = some 64) : (Tryz.prog.info? t).map (·.size) = some (rowOf .i64 64 f).size := by rw [rowOf_size]; exact h

theorem colsC_congr {f g : Nat → Int} (h : ∀ i, i < 64 → f i = g i) (i : Nat) (hi : i < 64) : colsC f i = colsC g i := accW_congr fun u hu => h _ (by omega)
theorem rowsC_congr {f g : Nat → Int} (h : ∀ i, i < 64 → f i = g i) (i : Nat) (hi : i < 64) : rowsC f i = rowsC g i := accW_congr fun u hu => h _ (by omega)
theorem two_each (f : Nat → Int) (i : Nat) (hi : i < 64) : eachF 1 8 (eachF 8 1 f (List.finRange 8)) (List.finRange 8) i = colsC (rowsC f) i := by
  rw [each_cols _ i hi]
  exact colsC_congr (fun i hi => each_rows f i hi) i hi
theorem accW_bd (l : Nat → Int) (B : Int) (hB : 0 ≤ B ∧ B ≤ 1099511627776) (hl : ∀ u, u < 8 → -B ≤ l u ∧ l u ≤ B) (x : Nat) (hx : x < 8) : -(16384 * B) ≤ accW l x 8 ∧ accW l x 8 ≤ 16384 * B := by
  rw [accW_sum l B hB hl x hx 8 (Nat.le_refl 8)]
  have := part_bd l B hl 8 x (by omega) hx
  omega
theorem rowsC_bd (f : Nat → Int) (B : Int) (hB : 0 ≤ B ∧ B ≤ 1099511627776) (hf : ∀ i, i < 64 → -B ≤ f i ∧ f i ≤ B) (i : Nat) (hi : i < 64) : -(16384 * B) ≤ rowsC f i ∧ rowsC f i ≤ 16384 * B :=
  accW_bd _ B hB (fun u hu => hf _ (by omega)) _ (by omega)
theorem colsC_bd (f : Nat → Int) (B : Int) (hB : 0 ≤ B ∧ B ≤ 1099511627776) (hf : ∀ i, i < 64 → -B ≤ f i ∧ f i ≤ B) (i : Nat) (hi : i < 64) : -(16384 * B) ≤ colsC f i ∧ colsC f i ≤ 16384 * B :=
  accW_bd _ B hB (fun u hu => hf _ (by omega)) _ (by omega)
theorem inv_bd (f : Nat → Int) (h : okV f 64 = true) (i : Nat) (hi : i < 64) : -1000000000000 ≤ colsC (rowsC f) i ∧ colsC (rowsC f) i ≤ 1000000000000 := by
  have h1 := rowsC_bd f 2048 (by omega) (fun i hi => by have := inR_yes (okR_at h i hi); omega)
  have h2 := colsC_bd (rowsC f) (16384 * 2048) (by omega) h1 i hi
  omega

set_option maxRecDepth 100000 in
set_option maxHeartbeats 4000000 in
theorem inverse_row (b o c : Nat) (f : Nat → Int) (w : World) (h : Ints w .i64 b o 64 f) :
    Calls Tryz.prog 96 #[.slice (some ⟨b, o, none⟩) 64 c] w (Inverts w 64 f) := by
  have hblt := h.lt (by omega)
  have H := Lib.hid h
  have HE : Hid (vE 64 f = if okV f 64 then 0 else 3) := by show _ = _; unfold vE; rw [if_pos rfl]
  have HN : Hid (vN 64 f = if okV f 64 then 64 else 0) := by show _ = _; unfold vN; rw [if_pos rfl]
  clear h
  go_enter Tryz.func96, Tryz.ntmps96
  go_wp2
  go_loopw [14] (fun i wr => ∃ k : Nat, k ≤ 64 ∧ i = .int .i64 k ∧ okV f k = true ∧ wr = w) (fun i _ => 64 - (intOf i).toNat)
  case atStart => exact ⟨0, by omega, rfl, rfl, rfl⟩
  case round =>
    obtain ⟨k, hk, rfl, hok, rfl⟩ := hrel
    by_cases hk8 : k < 64
    · have ck := H.out.at k hk8
      have kb : (0 : Int) ≤ (k : Int) ∧ (k : Int) < 64 := by omega
      have OK := Lib.hid hok
      clear hok
      cases hkk : inR (-2048) 2047 (f k)
      · have EA : Hid (okV f 64 = false) := Lib.hid (okR_not hk8 hkk)
        rcases inR_no hkk with g | g
        · have _d : decide (f k < -2048) = true := by simp; omega
          clear hkk
          go_wp2
          go_ret2
          exact ⟨.slice none 0 0, by rw [HE.out, EA.out]; rfl, by rw [HN.out, EA.out]; exact .inl ⟨rfl, rfl⟩, Below.refl _ _⟩
        · have _d : decide (f k < -2048) = false := by simp; omega
          have _d2 : decide (2047 < f k) = true := by simp; omega
          clear hkk
          go_wp2
          go_ret2
          exact ⟨.slice none 0 0, by rw [HE.out, EA.out]; rfl, by rw [HN.out, EA.out]; exact .inl ⟨rfl, rfl⟩, Below.refl _ _⟩
      · have g := inR_yes hkk
        have _d : decide (f k < -2048) = false := by simp; omega
        have _d2 : decide (2047 < f k) = false := by simp; omega
        have KK := Lib.hid hkk
        clear hkk
        go_wp2
        go_roundw
        case rel => exact ⟨k + 1, by omega, by go_num, by have := OK.out; unfold okV at *; rw [okR_succ, this, KK.out]; rfl, by first | rfl | trivial⟩
        case measure => simp [intOf]; omega
    · have hok' : okV f 64 = true := by
        obtain rfl : k = 64 := by omega
        exact hok
      have HE' : Hid (vE 64 f = 0) := Lib.hid (by rw [HE.out, hok']; rfl)
      have HN' : Hid (vN 64 f = 64) := Lib.hid (by rw [HN.out, hok']; rfl)
      have HOK := Lib.hid hok'
      have hk' : 64 ≤ k := by omega
      have SA := fun w' => run_arrayAt (P := Tryz.prog) (n := 64) (c := c) (a := some ⟨b, o, none⟩) w' Tryz.underlying126 (Nat.le_refl 64)
      clear hok hok' hk hk8 HE HN
      have LD := H.out.range
      have HW0 : wr = wr := rfl
      have HZ := zeros64
      go_upto_region 9 with fail
      go_cut [6, 7] from 25 (fun u6 u7 wx => ∃ ga gw, u6 = .pointer (some ⟨ga, 0, none⟩) ∧ u7 = .pointer (some ⟨gw, 0, none⟩) ∧ ga ≠ gw ∧ wr.heap.size ≤ ga ∧ wr.heap.size ≤ gw ∧ Arr wx .i64 ga 64 f ∧ Arr wx .i64 gw 64 wtF ∧ Below wr.heap.size wr wx)
      case first =>
        refine wp_region_held_drew (S := fun W => Below wr.heap.size wr W) (by kernel_rfl) (Below.refl _ _).drew (fun hS => ?_)
        refine wpAnyH_take (i := 0) (oi := _) (v := .slice (some ⟨b, o, none⟩) 64 c) rfl (by kernel_rfl) (by kernel_rfl) (by kernel_rfl) (fun _ _ _ h => h) (Or.inl ⟨by rfl, fun w _ => by go_simp⟩) hS ?_
        simp only [Act.put, List.setIfInBounds_toArray, List.set_cons_zero, List.set_cons_succ]
        refine wpAnyH_take (i := 1) (oi := _) (v := .pointer (some ⟨b, o, none⟩)) rfl (by kernel_rfl) (by kernel_rfl) (by kernel_rfl) (fun _ _ _ h => h) (Or.inl ⟨by rfl, fun w _ => by go_simp⟩) hS ?_
        simp only [Act.put, List.setIfInBounds_toArray, List.set_cons_zero, List.set_cons_succ]
        refine wpAnyH_take (i := 2) (oi := _) (v := .agg (rowOf .i64 64 f)) rfl (by kernel_rfl) (by kernel_rfl) (by kernel_rfl) (fun _ _ _ h => h)
          (yieldsIf_load_mid (by rfl) _ _ rfl b o rfl ((List.range 64).map fun i => Value.int .i64 (f i)) _ (fun w hw => (H.out.below hw hblt).range) Tryz.underlying126 rfl (by kernel_rfl)) hS ?_
        simp only [Act.put, List.setIfInBounds_toArray, List.set_cons_zero, List.set_cons_succ]
        refine wpAnyH_ready (rs := [3, 4, 5]) (by kernel_rfl) (by simp) ?_
        refine AllReadyH.cons (o := _) rfl (fun K hK => ?_) ?_
        · go_simp
          go_at_call 139; refine (weights_any _).mono ?_; rintro e w1 ⟨rfl, b1⟩
          refine hK.out _ _ (chain hS b1) (fun hS => ?_)
          clear hK K
          try simp only [Act.put, List.setIfInBounds_toArray, List.set_cons_zero, List.set_cons_succ]
          refine wpAnyH_ready (rs := [4, 5]) (by kernel_rfl) (by simp) ?_
          refine AllReadyH.cons (o := _) rfl (fun K hK => ?_) ?_
          · go_simp
            refine hK.out _ _ (hS.alloc hS.size _) (fun hS => ?_)
            clear hK K
            try simp only [Act.put, List.setIfInBounds_toArray, List.set_cons_zero, List.set_cons_succ]
            refine wpAnyH_ready (rs := [5]) (by kernel_rfl) (by simp) ?_
            refine AllReadyH.cons (o := _) rfl (fun K hK => ?_) AllReadyH.nil
            go_simp
            refine hK.out _ _ (hS.alloc hS.size _) (fun hS => ?_)
            clear hK K
            try simp only [Act.put, List.setIfInBounds_toArray, List.set_cons_zero, List.set_cons_succ]
            refine wpAnyH_ready (rs := [6]) (by kernel_rfl) (by simp) ?_
            refine AllReadyH.cons (o := _) rfl (fun K hK => ?_) AllReadyH.nil
            rw [if_pos (by rfl)]
            have TF := (twoA (t1 := 126) (t2 := 170) HW0 b1)
            try simp only [Zb] at TF
            refine wp_store_mid _ _ _ rfl _ 0 (rowOf .i64 64 f) rfl rfl (tf_there1 TF f) (size64 _ f (by kernel_rfl)) (rowOf_one _ _ _) ?_
            refine hK.out _ _ (tf_below1 TF f) (fun hS => ?_)
            clear hK K
            try simp only [Act.put, List.setIfInBounds_toArray, List.set_cons_zero, List.set_cons_succ]
            have FA1 := tf_arr1 TF f
            have FW1 := tf_arr2 TF f
            generalize hWW : World.setCells _ _ _ _ = WW
            rw [hWW] at FA1 FW1 hS
            clear hWW
            refine wpAnyH_ready (rs := [7]) (by kernel_rfl) (by simp) ?_
            refine AllReadyH.cons (o := _) rfl (fun K hK => ?_) AllReadyH.nil
            rw [if_pos (by rfl)]
            refine wp_store_mid _ _ _ rfl _ 0 (rowOf .i64 64 wtF) rfl rfl (tf_there2 wtF FW1) (size64 _ wtF (by kernel_rfl)) (rowOf_one _ _ _) ?_
            refine hK.out _ _ (tf_below2 TF wtF hS) (fun hS2 => ?_)
            clear hK K
            try simp only [Act.put, List.setIfInBounds_toArray, List.set_cons_zero, List.set_cons_succ]
            refine wpAnyH_done (by kernel_rfl) ?_ _
            go_wp2_with fail
            go_meet
            exact tf_end TF f wtF FA1 FW1 hS
          refine AllReadyH.cons (o := _) rfl (fun K hK => ?_) AllReadyH.nil
          go_simp
          refine hK.out _ _ (hS.alloc hS.size _) (fun hS => ?_)
          clear hK K
          try simp only [Act.put, List.setIfInBounds_toArray, List.set_cons_zero, List.set_cons_succ]
          refine wpAnyH_ready (rs := [4]) (by kernel_rfl) (by simp) ?_
          refine AllReadyH.cons (o := _) rfl (fun K hK => ?_) AllReadyH.nil
          go_simp
          refine hK.out _ _ (hS.alloc hS.size _) (fun hS => ?_)
          clear hK K
          try simp only [Act.put, List.setIfInBounds_toArray, List.set_cons_zero, List.set_cons_succ]
          refine wpAnyH_ready (rs := [6]) (by kernel_rfl) (by simp) ?_
          refine AllReadyH.cons (o := _) rfl (fun K hK => ?_) AllReadyH.nil
          rw [if_pos (by rfl)]
          have TF := (twoA (t1 := 170) (t2 := 126) HW0 b1).swap
          try simp only [Zb] at TF
          refine wp_store_mid _ _ _ rfl _ 0 (rowOf .i64 64 f) rfl rfl (tf_there1 TF f) (size64 _ f (by kernel_rfl)) (rowOf_one _ _ _) ?_
          refine hK.out _ _ (tf_below1 TF f) (fun hS => ?_)
          clear hK K
          try simp only [Act.put, List.setIfInBounds_toArray, List.set_cons_zero, List.set_cons_succ]
          have FA1 := tf_arr1 TF f
          have FW1 := tf_arr2 TF f
          generalize hWW : World.setCells _ _ _ _ = WW
          rw [hWW] at FA1 FW1 hS
          clear hWW
          refine wpAnyH_ready (rs := [7]) (by kernel_rfl) (by simp) ?_
          refine AllReadyH.cons (o := _) rfl (fun K hK => ?_) AllReadyH.nil
          rw [if_pos (by rfl)]
          refine wp_store_mid _ _ _ rfl _ 0 (rowOf .i64 64 wtF) rfl rfl (tf_there2 wtF FW1) (size64 _ wtF (by kernel_rfl)) (rowOf_one _ _ _) ?_
          refine hK.out _ _ (tf_below2 TF wtF hS) (fun hS2 => ?_)
          clear hK K
          try simp only [Act.put, List.setIfInBounds_toArray, List.set_cons_zero, List.set_cons_succ]
          refine wpAnyH_done (by kernel_rfl) ?_ _
          go_wp2_with fail
          go_meet
          exact tf_end TF f wtF FA1 FW1 hS
        refine AllReadyH.cons (o := _) rfl (fun K hK => ?_) ?_
        · go_simp
          refine hK.out _ _ (hS.alloc hS.size _) (fun hS => ?_)
          clear hK K
          try simp only [Act.put, List.setIfInBounds_toArray, List.set_cons_zero, List.set_cons_succ]
          refine wpAnyH_ready (rs := [3, 5]) (by kernel_rfl) (by simp) ?_
          refine AllReadyH.cons (o := _) rfl (fun K hK => ?_) ?_
          · go_simp
            go_at_call 139; refine (weights_any _).mono ?_; rintro e w1 ⟨rfl, b1⟩
            refine hK.out _ _ (chain hS b1) (fun hS => ?_)
            clear hK K
            try simp only [Act.put, List.setIfInBounds_toArray, List.set_cons_zero, List.set_cons_succ]
            refine wpAnyH_ready (rs := [5]) (by kernel_rfl) (by simp) ?_
            refine AllReadyH.cons (o := _) rfl (fun K hK => ?_) AllReadyH.nil
            go_simp
            refine hK.out _ _ (hS.alloc hS.size _) (fun hS => ?_)
            clear hK K
            try simp only [Act.put, List.setIfInBounds_toArray, List.set_cons_zero, List.set_cons_succ]
            refine wpAnyH_ready (rs := [6]) (by kernel_rfl) (by simp) ?_
            refine AllReadyH.cons (o := _) rfl (fun K hK => ?_) AllReadyH.nil
            rw [if_pos (by rfl)]
            have TF := (twoB (t1 := 126) (t2 := 170) HW0 b1)
            try simp only [Zb] at TF
            refine wp_store_mid _ _ _ rfl _ 0 (rowOf .i64 64 f) rfl rfl (tf_there1 TF f) (size64 _ f (by kernel_rfl)) (rowOf_one _ _ _) ?_
            refine hK.out _ _ (tf_below1 TF f) (fun hS => ?_)
            clear hK K
            try simp only [Act.put, List.setIfInBounds_toArray, List.set_cons_zero, List.set_cons_succ]
            have FA1 := tf_arr1 TF f
            have FW1 := tf_arr2 TF f
            generalize hWW : World.setCells _ _ _ _ = WW
            rw [hWW] at FA1 FW1 hS
            clear hWW
            refine wpAnyH_ready (rs := [7]) (by kernel_rfl) (by simp) ?_
            refine AllReadyH.cons (o := _) rfl (fun K hK => ?_) AllReadyH.nil
            rw [if_pos (by rfl)]
            refine wp_store_mid _ _ _ rfl _ 0 (rowOf .i64 64 wtF) rfl rfl (tf_there2 wtF FW1) (size64 _ wtF (by kernel_rfl)) (rowOf_one _ _ _) ?_
            refine hK.out _ _ (tf_below2 TF wtF hS) (fun hS2 => ?_)
            clear hK K
            try simp only [Act.put, List.setIfInBounds_toArray, List.set_cons_zero, List.set_cons_succ]
            refine wpAnyH_done (by kernel_rfl) ?_ _
            go_wp2_with fail
            go_meet
            exact tf_end TF f wtF FA1 FW1 hS
          refine AllReadyH.cons (o := _) rfl (fun K hK => ?_) AllReadyH.nil
          go_simp
          refine hK.out _ _ (hS.alloc hS.size _) (fun hS => ?_)
          clear hK K
          try simp only [Act.put, List.setIfInBounds_toArray, List.set_cons_zero, List.set_cons_succ]
          refine wpAnyH_ready (rs := [3]) (by kernel_rfl) (by simp) ?_
          refine AllReadyH.cons (o := _) rfl (fun K hK => ?_) AllReadyH.nil
          go_simp
          go_at_call 139; refine (weights_any _).mono ?_; rintro e w1 ⟨rfl, b1⟩
          refine hK.out _ _ (chain hS b1) (fun hS => ?_)
          clear hK K
          try simp only [Act.put, List.setIfInBounds_toArray, List.set_cons_zero, List.set_cons_succ]
          refine wpAnyH_ready (rs := [6]) (by kernel_rfl) (by simp) ?_
          refine AllReadyH.cons (o := _) rfl (fun K hK => ?_) AllReadyH.nil
          rw [if_pos (by rfl)]
          have TF := (twoC (t1 := 126) (t2 := 170) HW0 b1)
          try simp only [Zb] at TF
          refine wp_store_mid _ _ _ rfl _ 0 (rowOf .i64 64 f) rfl rfl (tf_there1 TF f) (size64 _ f (by kernel_rfl)) (rowOf_one _ _ _) ?_
          refine hK.out _ _ (tf_below1 TF f) (fun hS => ?_)
          clear hK K
          try simp only [Act.put, List.setIfInBounds_toArray, List.set_cons_zero, List.set_cons_succ]
          have FA1 := tf_arr1 TF f
          have FW1 := tf_arr2 TF f
          generalize hWW : World.setCells _ _ _ _ = WW
          rw [hWW] at FA1 FW1 hS
          clear hWW
          refine wpAnyH_ready (rs := [7]) (by kernel_rfl) (by simp) ?_
          refine AllReadyH.cons (o := _) rfl (fun K hK => ?_) AllReadyH.nil
          rw [if_pos (by rfl)]
          refine wp_store_mid _ _ _ rfl _ 0 (rowOf .i64 64 wtF) rfl rfl (tf_there2 wtF FW1) (size64 _ wtF (by kernel_rfl)) (rowOf_one _ _ _) ?_
          refine hK.out _ _ (tf_below2 TF wtF hS) (fun hS2 => ?_)
          clear hK K
          try simp only [Act.put, List.setIfInBounds_toArray, List.set_cons_zero, List.set_cons_succ]
          refine wpAnyH_done (by kernel_rfl) ?_ _
          go_wp2_with fail
          go_meet
          exact tf_end TF f wtF FA1 FW1 hS
        refine AllReadyH.cons (o := _) rfl (fun K hK => ?_) AllReadyH.nil
        go_simp
        refine hK.out _ _ (hS.alloc hS.size _) (fun hS => ?_)
        clear hK K
        try simp only [Act.put, List.setIfInBounds_toArray, List.set_cons_zero, List.set_cons_succ]
        refine wpAnyH_ready (rs := [3, 4]) (by kernel_rfl) (by simp) ?_
        refine AllReadyH.cons (o := _) rfl (fun K hK => ?_) ?_
        · go_simp
          go_at_call 139; refine (weights_any _).mono ?_; rintro e w1 ⟨rfl, b1⟩
          refine hK.out _ _ (chain hS b1) (fun hS => ?_)
          clear hK K
          try simp only [Act.put, List.setIfInBounds_toArray, List.set_cons_zero, List.set_cons_succ]
          refine wpAnyH_ready (rs := [4]) (by kernel_rfl) (by simp) ?_
          refine AllReadyH.cons (o := _) rfl (fun K hK => ?_) AllReadyH.nil
          go_simp
          refine hK.out _ _ (hS.alloc hS.size _) (fun hS => ?_)
          clear hK K
          try simp only [Act.put, List.setIfInBounds_toArray, List.set_cons_zero, List.set_cons_succ]
          refine wpAnyH_ready (rs := [6]) (by kernel_rfl) (by simp) ?_
          refine AllReadyH.cons (o := _) rfl (fun K hK => ?_) AllReadyH.nil
          rw [if_pos (by rfl)]
          have TF := (twoB (t1 := 170) (t2 := 126) HW0 b1).swap
          try simp only [Zb] at TF
          refine wp_store_mid _ _ _ rfl _ 0 (rowOf .i64 64 f) rfl rfl (tf_there1 TF f) (size64 _ f (by kernel_rfl)) (rowOf_one _ _ _) ?_
          refine hK.out _ _ (tf_below1 TF f) (fun hS => ?_)
          clear hK K
          try simp only [Act.put, List.setIfInBounds_toArray, List.set_cons_zero, List.set_cons_succ]
          have FA1 := tf_arr1 TF f
          have FW1 := tf_arr2 TF f
          generalize hWW : World.setCells _ _ _ _ = WW
          rw [hWW] at FA1 FW1 hS
          clear hWW
          refine wpAnyH_ready (rs := [7]) (by kernel_rfl) (by simp) ?_
          refine AllReadyH.cons (o := _) rfl (fun K hK => ?_) AllReadyH.nil
          rw [if_pos (by rfl)]
          refine wp_store_mid _ _ _ rfl _ 0 (rowOf .i64 64 wtF) rfl rfl (tf_there2 wtF FW1) (size64 _ wtF (by kernel_rfl)) (rowOf_one _ _ _) ?_
          refine hK.out _ _ (tf_below2 TF wtF hS) (fun hS2 => ?_)
          clear hK K
          try simp only [Act.put, List.setIfInBounds_toArray, List.set_cons_zero, List.set_cons_succ]
          refine wpAnyH_done (by kernel_rfl) ?_ _
          go_wp2_with fail
          go_meet
          exact tf_end TF f wtF FA1 FW1 hS
        refine AllReadyH.cons (o := _) rfl (fun K hK => ?_) AllReadyH.nil
        go_simp
        refine hK.out _ _ (hS.alloc hS.size _) (fun hS => ?_)
        clear hK K
        try simp only [Act.put, List.setIfInBounds_toArray, List.set_cons_zero, List.set_cons_succ]
        refine wpAnyH_ready (rs := [3]) (by kernel_rfl) (by simp) ?_
        refine AllReadyH.cons (o := _) rfl (fun K hK => ?_) AllReadyH.nil
        go_simp
        go_at_call 139; refine (weights_any _).mono ?_; rintro e w1 ⟨rfl, b1⟩
        refine hK.out _ _ (chain hS b1) (fun hS => ?_)
        clear hK K
        try simp only [Act.put, List.setIfInBounds_toArray, List.set_cons_zero, List.set_cons_succ]
        refine wpAnyH_ready (rs := [6]) (by kernel_rfl) (by simp) ?_
        refine AllReadyH.cons (o := _) rfl (fun K hK => ?_) AllReadyH.nil
        rw [if_pos (by rfl)]
        have TF := (twoC (t1 := 170) (t2 := 126) HW0 b1).swap
        try simp only [Zb] at TF
        refine wp_store_mid _ _ _ rfl _ 0 (rowOf .i64 64 f) rfl rfl (tf_there1 TF f) (size64 _ f (by kernel_rfl)) (rowOf_one _ _ _) ?_
        refine hK.out _ _ (tf_below1 TF f) (fun hS => ?_)
        clear hK K
        try simp only [Act.put, List.setIfInBounds_toArray, List.set_cons_zero, List.set_cons_succ]
        have FA1 := tf_arr1 TF f
        have FW1 := tf_arr2 TF f
        generalize hWW : World.setCells _ _ _ _ = WW
        rw [hWW] at FA1 FW1 hS
        clear hWW
        refine wpAnyH_ready (rs := [7]) (by kernel_rfl) (by simp) ?_
        refine AllReadyH.cons (o := _) rfl (fun K hK => ?_) AllReadyH.nil
        rw [if_pos (by rfl)]
        refine wp_store_mid _ _ _ rfl _ 0 (rowOf .i64 64 wtF) rfl rfl (tf_there2 wtF FW1) (size64 _ wtF (by kernel_rfl)) (rowOf_one _ _ _) ?_
        refine hK.out _ _ (tf_below2 TF wtF hS) (fun hS2 => ?_)
        clear hK K
        try simp only [Act.put, List.setIfInBounds_toArray, List.set_cons_zero, List.set_cons_succ]
        refine wpAnyH_done (by kernel_rfl) ?_ _
        go_wp2_with fail
        go_meet
        exact tf_end TF f wtF FA1 FW1 hS
      case rest =>
        obtain ⟨ga, gw, rfl, rfl, hn, p1, p2, hA, hW, hB⟩ := hcut
        clear HZ LD
        have zB := hB.size
        have HA := Lib.hid hA
        have HW := Lib.hid hW
        have HB := Lib.hid hB
        clear hA hW hB
        go_wp2_with fail
        refine (each_any 8 1 (.inl ⟨rfl, rfl⟩) ga gw f _ hn HA.out HW.out).mono ?_
        rintro e w2 ⟨rfl, hA, hG⟩
        have HW := Lib.hid (HW.out.grown hG (fun e => hn (Option.some.inj e).symm))
        have HB := Lib.hid (HB.out.grown hG zB (fun g hg => by cases hg; exact p1))
        have zB := HB.out.size
        have HA := Lib.hid hA
        clear hA hG
        go_wp2_with fail
        refine (each_any 1 8 (.inr ⟨rfl, rfl⟩) ga gw _ _ hn HA.out HW.out).mono ?_
        rintro e w3 ⟨rfl, hA, hG⟩
        have HB := Lib.hid (HB.out.grown hG zB (fun g hg => by cases hg; exact p1))
        have HA := Lib.hid (hA.congr (two_each f))
        have BD := Lib.hid (inv_bd f HOK.out)
        clear hA hG HW
        go_wp2_with fail
        go_loopw [31] (fun i wx => ∃ k : Nat, k ≤ 64 ∧ i = .int .i64 k ∧ Arr wx .i64 ga 64 (fun i => if i < k then invC f i else colsC (rowsC f) i) ∧ Below wr.heap.size wr wx) (fun i _ => 64 - (intOf i).toNat)
        case atStart => exact ⟨0, by omega, rfl, HA.out.start, HB.out⟩
        case round =>
          obtain ⟨j, hj, rfl, hA, hB⟩ := hrel
          by_cases hj64 : j < 64
          · have cj := hA j hj64
            simp only [Nat.lt_irrefl, if_false] at cj
            obtain ⟨cj1, cj2⟩ := cj
            have bj := BD.out j hj64
            have jb : (0 : Int) ≤ (j : Int) ∧ (j : Int) < 64 := by omega
            have ev : Hid (invC f j = (colsC (rowsC f) j + 8388608) / 16777216) := Lib.hid rfl
            have HA := Lib.hid hA
            have HB := Lib.hid hB
            clear hA hB
            go_wp2
            go_roundw
            case rel => exact ⟨j + 1, by omega, by go_num, HA.out.fill _ rfl, HB.out.setCell (p := ⟨ga, j, none⟩) p1 _⟩
            case measure => simp [intOf]; omega
          · have hA8 : Arr wr .i64 ga 64 (invC f) := by
              obtain rfl : j = 64 := by omega
              exact hA.filled
            have hj' : 64 ≤ j := by omega
            have HA := Lib.hid hA8
            have HB := Lib.hid hB
            clear hA hB hA8 hj hj64
            go_wp2
            go_ret2
            exact ⟨_, by rw [HE'.out]; rfl, by rw [HN'.out]; exact .inr ⟨ga, 64, rfl, p1, HA.out.lt (by omega), Nat.le_refl _, by decide, HA.out⟩, HB.out⟩

theorem Inverse_any (v : Value) (n : Nat) (f : Nat → Int) (w : World) (hs : Sl .i64 w v n f) :
    Calls Tryz.prog 96 #[v] w (Inverts w n f) := by
  obtain ⟨a, c, rfl, h1, h2, h3⟩ := hs
  by_cases h : n = 64
  · subst h
    rcases h3 with ⟨h3, _⟩ | ⟨b, o, rfl, _, h4⟩
    · omega
    · exact inverse_row b o c f w h4
  · exact inverse_long a n c f w h
end Co
end Go.Proofs.YtbmglemjfodfhaaGreat

namespace Go.Proofs.YtbmglemjfodfhaaGreat
open Go.RowKit
namespace Co

theorem tab_new (w : World) (t : TypeId) (j : Nat) (hj : j < 9) : (w.alloc (.cells #[.int .i64 2048, .int .i64 2009, .int .i64 1892, .int .i64 1703, .int .i64 1448, .int .i64 1138, .int .i64 784, .int .i64 400, .int .i64 0] t)).cell? ⟨w.heap.size, j, none⟩ = some (.int .i64 (tab j)) :=
  ((Arr.new w .i64 _ t 9 tab (fun i hi => by
    rcases (by omega : i = 0 ∨ i = 1 ∨ i = 2 ∨ i = 3 ∨ i = 4 ∨ i = 5 ∨ i = 6 ∨ i = 7 ∨ i = 8) with rfl | rfl | rfl | rfl | rfl | rfl | rfl | rfl | rfl <;> rfl)) j hj).1
theorem c_small (k : Nat) (hk : k ≤ 16) (w : World) : Calls Tryz.prog 170 #[.int .i64 k] w fun e w' => e = .returned (.int .i64 (cosS k)) ∧ Below w.heap.size w w' := by
  have hb : Hid (Below w.heap.size w (w.alloc (.cells #[.int .i64 2048, .int .i64 2009, .int .i64 1892, .int .i64 1703, .int .i64 1448, .int .i64 1138, .int .i64 784, .int .i64 400, .int .i64 0] 3))) := Lib.hid ((Below.refl _ _).alloc (Nat.le_refl _) _)
  by_cases h8 : k > 8
  · obtain ⟨j, hj⟩ : ∃ j, j = 16 - k := ⟨_, rfl⟩
    have je : 16 - (k : Int) = (j : Int) := by omega
    have jb : (0 : Int) ≤ (j : Int) ∧ (j : Int) < 9 := by omega
    have tc := tab_new w 3 j (by omega)
    have tb := tab_bd j (by omega)
    have EV : Hid (cosS k = -tab j) := Lib.hid (by unfold cosS; rw [if_pos h8, hj])
    clear hj
    go_enter Tryz.func170, Tryz.ntmps170
    go_wp2
    go_ret
    exact ⟨by rw [EV.out]; rfl, hb.out⟩
  · have tc := tab_new w 3 k (by omega)
    have kb : (0 : Int) ≤ (k : Int) ∧ (k : Int) < 9 := by omega
    have EV : Hid (cosS k = tab k) := Lib.hid (by unfold cosS; rw [if_neg h8])
    go_enter Tryz.func170, Tryz.ntmps170
    go_wp2
    go_ret
    exact ⟨by rw [EV.out]; rfl, hb.out⟩
theorem c_any (k : Nat) (hk : k < 32) (w : World) : Calls Tryz.prog 170 #[.int .i64 k] w fun e w' => e = .returned (.int .i64 (cosT k)) ∧ Below w.heap.size w w' := by
  by_cases h16 : k > 16
  · have ev : cosT k = cosS (32 - k) := by unfold cosT; rw [if_pos h16]
    have e1 : (32 - (k : Int)) = ((32 - k : Nat) : Int) := by omega
    have EV := Lib.hid ev
    have E1 := Lib.hid e1
    clear ev e1
    have hb : Hid (Below w.heap.size w (w.alloc (.cells #[.int .i64 2048, .int .i64 2009, .int .i64 1892, .int .i64 1703, .int .i64 1448, .int .i64 1138, .int .i64 784, .int .i64 400, .int .i64 0] 3))) := Lib.hid ((Below.refl _ _).alloc (Nat.le_refl _) _)
    go_enter Tryz.func170, Tryz.ntmps170
    go_wp2_with (go_at_call 170; rw [E1.out]; refine (c_small (32 - k) (by omega) _).mono ?_; rintro e w1 ⟨rfl, hw⟩)
    go_ret
    exact ⟨by rw [EV.out]; rfl, chain hb.out hw⟩
  · have ev : cosT k = cosS k := by unfold cosT; rw [if_neg h16]
    rw [ev]
    exact c_small k (by omega) w
theorem c_at (K : Int) (k : Nat) (hK : K = k) (hk : k < 32) (w : World) : Calls Tryz.prog 170 #[.int .i64 K] w fun e w' => e = .returned (.int .i64 (cosT k)) ∧ Below w.heap.size w w' := by
  subst hK; exact c_any k hk w
theorem rweight_any (u x : Nat) (hu : u < 8) (hx : x < 8) (w : World) : Calls Tryz.prog 152 #[.int .i64 u, .int .i64 x] w fun e w' => e = .returned (.int .i64 (Wt u x)) ∧ Below w.heap.size w w' := by
  have ub : (0 : Int) ≤ (u : Int) ∧ (u : Int) < 8 := by omega
  have xb : (0 : Int) ≤ (x : Int) ∧ (x : Int) < 8 := by omega
  by_cases hu0 : u = 0
  · subst hu0
    go_enter Tryz.func152, Tryz.ntmps152
    go_wp2
    go_ret
    exact ⟨rfl, Below.refl _ _⟩
  · obtain ⟨p, hp⟩ : ∃ p, p = (2 * x + 1) * u := ⟨_, rfl⟩
    have pb : p ≤ 105 := by rw [hp]; exact Nat.mul_le_mul (show 2 * x + 1 ≤ 15 by omega) (show u ≤ 7 by omega)
    have pe : (2 * (x : Int) + 1) * (u : Int) = (p : Int) := by rw [hp]; push_cast; rfl
    have t1 : (p : Int).tmod 32 = (p : Int) % 32 := Int.tmod_eq_emod_of_nonneg (by omega)
    have ev : Hid (cosT (p % 32) = Wt u x) := Lib.hid (by rw [hp, wt_turn u x hu0])
    have kd : ((u : Int) == 0) = false := by simp; omega
    clear hp
    go_enter Tryz.func152, Tryz.ntmps152
    go_wp2_with (go_at_call 170; refine (c_at _ (p % 32) (by omega) (by omega) _).mono ?_; rintro e w1 ⟨rfl, hw⟩)
    go_ret
    exact ⟨by rw [← ev.out]; rfl, hw⟩
theorem rweight_at (U X : Int) (u x : Nat) (hU : U = u) (hX : X = x) (hu : u < 8) (hx : x < 8) (w : World) : Calls Tryz.prog 152 #[.int .i64 U, .int .i64 X] w fun e w' => e = .returned (.int .i64 (Wt u x)) ∧ Below w.heap.size w w' := by
  subst hU hX; exact rweight_any u x hu hx w
theorem ownsRow_below {w w' : World} {B : Nat} {e : TypeId} {v : Value} {n : Nat} {xs : List Value} (h : w.ownsRow B e 1 v n xs) (hb : Below w.heap.size w w') : w'.ownsRow B e 1 v n xs :=
  h.kept (grown_of_below hb none) (by cases v.ownBlock <;> simp)
theorem info_intR : (Tryz.prog.info? 3).map (fun i => (i.zero, i.size, i.bytes)) = some (some (.int .i64 0), 1, 8) := by kernel_rfl
theorem okL_bd {f : Nat → Int} {k : Nat} (h : okL f k = true) (u : Nat) (hu : u < k) : -1099511627776 ≤ f u ∧ f u ≤ 1099511627776 := inR_yes (okR_at h u hu)
theorem lineC_sum {f : Nat → Int} (h : okL f 8 = true) (x : Nat) (hx : x < 8) : sumN 8 (fun u => Wt u x * f u) = lineC f x := (accW_sum f 1099511627776 (by omega) (fun u hu => okL_bd h u hu) x hx 8 (Nat.le_refl 8)).symm
end Co
end Go.Proofs.YtbmglemjfodfhaaGreat

namespace Go.Proofs.YtbmglemjfodfhaaGreat
open Go.RowKit
namespace Co

/-- a part of the sum that is a sample, ahead of its rounding. -/
def refS (f : Nat → Int) (k n : Nat) : Int := sumN n fun i => Wt (i % 8) (k % 8) * Wt (i / 8) (k / 8) * f i
theorem sumN_mul (n : Nat) (g : Nat → Int) (c : Int) : c * sumN n g = sumN n fun i => c * g i := by
  induction n with
  | zero => simp [sumN]
  | succ n ih => simp only [sumN]; rw [Int.mul_add, ih]
theorem sumN_add (n m : Nat) (g : Nat → Int) : sumN (n + m) g = sumN n g + sumN m fun i => g (n + i) := by
  induction m with
  | zero => simp [sumN]
  | succ m ih =>
    show sumN (n + m) g + g (n + m) = _
    rw [ih]
    simp only [sumN]
    omega
theorem sumN_rows (n : Nat) (g : Nat → Int) : sumN (8 * n) g = sumN n fun a => sumN 8 fun b => g (8 * a + b) := by
  induction n with
  | zero => rfl
  | succ n ih =>
    rw [show 8 * (n + 1) = 8 * n + 8 by omega, sumN_add, ih]
    rfl
/-- it is rows by weights, and then columns. -/
theorem refS_all (f : Nat → Int) (h : okV f 64 = true) (k : Nat) (hk : k < 64) : refS f k 64 = colsC (rowsC f) k := by
  have hf : ∀ i, i < 64 → -2048 ≤ f i ∧ f i ≤ 2048 := fun i hi => by have := inR_yes (okR_at h i hi); omega
  have hr := rowsC_bd f 2048 (by omega) hf
  unfold colsC
  rw [accW_sum (fun u => rowsC f (8 * u + k % 8)) (16384 * 2048) (by omega) (fun u hu => hr _ (by omega)) (k / 8) (by omega) 8 (Nat.le_refl 8)]
  unfold refS
  rw [show 64 = 8 * 8 from rfl, sumN_rows]
  refine sumN_congr fun a ha => ?_
  have e : rowsC f (8 * a + k % 8) = sumN 8 fun u => Wt u (k % 8) * f (8 * a + u) := by
    unfold rowsC
    rw [show (8 * a + k % 8) / 8 = a by omega, show (8 * a + k % 8) % 8 = k % 8 by omega]
    exact accW_sum _ 2048 (by omega) (fun u hu => hf _ (by omega)) _ (by omega) 8 (Nat.le_refl 8)
  rw [e, sumN_mul]
  refine sumN_congr fun u hu => ?_
  rw [show (8 * a + u) % 8 = u by omega, show (8 * a + u) / 8 = a by omega, Int.mul_comm (Wt u (k % 8)) (Wt a (k / 8)), Int.mul_assoc]
theorem refS_zero {f : Nat → Int} {i : Nat} (h : f i = 0) (k : Nat) : refS f k (i + 1) = refS f k i := by
  unfold refS; simp only [sumN]; rw [h]; omega
theorem refS_succ (f : Nat → Int) (i k : Nat) : refS f k (i + 1) = refS f k i + Wt (i % 8) (k % 8) * Wt (i / 8) (k / 8) * f i := rfl
theorem term_bd (f : Nat → Int) (i k : Nat) (hi : i < 64) (hk : k < 64) (h : -2048 ≤ f i ∧ f i ≤ 2048) : (-4194304 ≤ Wt (i % 8) (k % 8) * Wt (i / 8) (k / 8) ∧ Wt (i % 8) (k % 8) * Wt (i / 8) (k / 8) ≤ 4194304) ∧ -8589934592 ≤ Wt (i % 8) (k % 8) * Wt (i / 8) (k / 8) * f i ∧ Wt (i % 8) (k % 8) * Wt (i / 8) (k / 8) * f i ≤ 8589934592 := by
  have h1 := mul_bd _ _ _ _ (Wt_bd (i % 8) (k % 8) (by omega) (by omega)) (Wt_bd (i / 8) (k / 8) (by omega) (by omega))
  have h2 := mul_bd _ _ (2048 * 2048) _ h1 h
  omega
theorem refS_bd (f : Nat → Int) (k n : Nat) (hk : k < 64) (hn : n ≤ 64) (h : ∀ i, i < 64 → -2048 ≤ f i ∧ f i ≤ 2048) : -1000000000000 ≤ refS f k n ∧ refS f k n ≤ 1000000000000 := by
  have := sumN_bd n (fun i => Wt (i % 8) (k % 8) * Wt (i / 8) (k / 8) * f i) 8589934592 fun i hi => (term_bd f i k (by omega) hk (h i (by omega))).2
  unfold refS
  omega

theorem make64c (w : World) : (Instr.makeSlice 87 (.int .i64 64) (.int .i64 64)).run Tryz.prog w = .ok (.slice (some ⟨w.heap.size, 0, none⟩) 64 64) (w.alloc (.cells (rowOf .i64 64 (fun _ => 0)) 3)) := by kernel_rfl
theorem rinverse_long (a : Option Addr) (n c : Nat) (f : Nat → Int) (w : World) (h : n ≠ 64) :
    Calls Tryz.prog 113 #[.slice a n c] w (Inverts w n f) := by
  have e1 : vE n f = 2 := by unfold vE; rw [if_neg h]
  have e2 : vN n f = 0 := by unfold vN; rw [if_neg h]
  have k : ((n : Int) == 64) = false := by simp; omega
  have E1 := Lib.hid e1
  have E2 := Lib.hid e2
  clear e1 e2
  go_enter Tryz.func113, Tryz.ntmps113
  go_wp2
  go_ret2
  exact ⟨.slice none 0 0, by rw [E1.out]; rfl, by rw [E2.out]; exact .inl ⟨rfl, rfl⟩, Below.refl _ _⟩

set_option maxRecDepth 100000 in
set_option maxHeartbeats 4000000 in
theorem rinverse_row (b o c : Nat) (f : Nat → Int) (w : World) (h : Ints w .i64 b o 64 f) :
    Calls Tryz.prog 113 #[.slice (some ⟨b, o, none⟩) 64 c] w (Inverts w 64 f) := by
  have hblt := h.lt (by omega)
  have H := Lib.hid h
  have HE : Hid (vE 64 f = if okV f 64 then 0 else 3) := by show _ = _; unfold vE; rw [if_pos rfl]
  have HN : Hid (vN 64 f = if okV f 64 then 64 else 0) := by show _ = _; unfold vN; rw [if_pos rfl]
  clear h
  go_enter Tryz.func113, Tryz.ntmps113
  go_wp2
  go_loopw [4] (fun i wr => ∃ k : Nat, k ≤ 64 ∧ i = .int .i64 k ∧ okV f k = true ∧ wr = w) (fun i _ => 64 - (intOf i).toNat)
  case atStart => exact ⟨0, by omega, rfl, rfl, rfl⟩
  case round =>
    obtain ⟨k, hk, rfl, hok, rfl⟩ := hrel
    by_cases hk8 : k < 64
    · have ck := H.out.at k hk8
      have kb : (0 : Int) ≤ (k : Int) ∧ (k : Int) < 64 := by omega
      have OK := Lib.hid hok
      clear hok
      cases hkk : inR (-2048) 2047 (f k)
      · have EA : Hid (okV f 64 = false) := Lib.hid (okR_not hk8 hkk)
        rcases inR_no hkk with g | g
        · have _d : decide (f k < -2048) = true := by simp; omega
          clear hkk
          go_wp2
          go_ret2
          exact ⟨.slice none 0 0, by rw [HE.out, EA.out]; rfl, by rw [HN.out, EA.out]; exact .inl ⟨rfl, rfl⟩, Below.refl _ _⟩
        · have _d : decide (f k < -2048) = false := by simp; omega
          have _d2 : decide (2047 < f k) = true := by simp; omega
          clear hkk
          go_wp2
          go_ret2
          exact ⟨.slice none 0 0, by rw [HE.out, EA.out]; rfl, by rw [HN.out, EA.out]; exact .inl ⟨rfl, rfl⟩, Below.refl _ _⟩
      · have g := inR_yes hkk
        have _d : decide (f k < -2048) = false := by simp; omega
        have _d2 : decide (2047 < f k) = false := by simp; omega
        have KK := Lib.hid hkk
        clear hkk
        go_wp2
        go_roundw
        case rel => exact ⟨k + 1, by omega, by go_num, by have := OK.out; unfold okV at *; rw [okR_succ, this, KK.out]; rfl, by first | rfl | trivial⟩
        case measure => simp [intOf]; omega
    · have hok' : okV f 64 = true := by
        obtain rfl : k = 64 := by omega
        exact hok
      have HE' : Hid (vE 64 f = 0) := Lib.hid (by rw [HE.out, hok']; rfl)
      have HN' : Hid (vN 64 f = 64) := Lib.hid (by rw [HN.out, hok']; rfl)
      have HOK := Lib.hid hok'
      have FB : Hid (∀ i, i < 64 → -2048 ≤ f i ∧ f i ≤ 2048) := Lib.hid fun i hi => by have := inR_yes (okR_at hok' i hi); omega
      have hk' : 64 ≤ k := by omega
      obtain ⟨ws, rfl⟩ : ∃ ws : World, ws = wr := ⟨_, rfl⟩
      have M0 := Lib.hid (Arr.new ws .i64 (rowOf .i64 64 (fun _ => 0)) 126 64 (fun _ => 0) (fun i hi => rowOf_get _ _ _ _ hi))
      clear hok hok' hk hk8 HE HN
      go_wp2
      go_loopw [6] (fun i wx => ∃ j : Nat, j ≤ 64 ∧ i = .int .i64 j ∧ Arr wx .i64 ws.heap.size 64 (fun i => if i < j then wtF i else 0) ∧ Below ws.heap.size ws wx) (fun i _ => 64 - (intOf i).toNat)
      case atStart => exact ⟨0, by omega, rfl, M0.out.start, (Below.refl _ _).alloc (Nat.le_refl _) _⟩
      case round =>
        obtain ⟨j, hj, rfl, hA, hB⟩ := hrel
        by_cases hj64 : j < 64
        · have jb : (0 : Int) ≤ (j : Int) ∧ (j : Int) < 64 := by omega
          have hlo := hA.lt (by omega)
          have HA := Lib.hid hA
          have HB := Lib.hid hB
          have t1 : (j : Int).tmod 8 = (j : Int) % 8 := Int.tmod_eq_emod_of_nonneg (by omega)
          have t2 : (j : Int).tdiv 8 = (j : Int) / 8 := Int.tdiv_eq_ediv_of_nonneg (by omega)
          clear hA hB
          go_wp2_with (go_at_call 152; refine (rweight_at _ _ (j / 8) (j % 8) (by omega) (by omega) (by omega) (by omega) _).mono ?_; rintro e w1 ⟨rfl, hw⟩; have AW := HA.out.below hw hlo; have cy := AW j hj64; have AWH := Lib.hid AW; have HBW := Lib.hid (chain HB.out hw); clear AW hw)
          go_roundw
          case rel => exact ⟨j + 1, by omega, by go_num, AWH.out.fill _ rfl, HBW.out.setCell (p := ⟨ws.heap.size, j, none⟩) (Nat.le_refl _) _⟩
          case measure => simp [intOf]; omega
        · have hA' : Arr wr .i64 ws.heap.size 64 wtF := by
            obtain rfl : j = 64 := by omega
            exact hA.filled
          have hj' : 64 ≤ j := by omega
          have hmk := make64c
          obtain ⟨w2, rfl⟩ : ∃ w2 : World, w2 = wr := ⟨_, rfl⟩
          have zz := hB.size
          have hlw := hA'.lt (by omega)
          have MO := Lib.hid (Arr.new w2 .i64 (rowOf .i64 64 (fun _ => 0)) 3 64 (fun _ => 0) (fun i hi => rowOf_get _ _ _ _ hi))
          have HA := Lib.hid (hA'.alloc (.cells (rowOf .i64 64 (fun _ => 0)) 3))
          have HB := Lib.hid (hB.alloc zz (.cells (rowOf .i64 64 (fun _ => 0)) 3))
          have MS := Lib.hid (show ws.heap.size ≤ w2.heap.size from zz)
          have hne : w2.heap.size ≠ ws.heap.size := by omega
          clear hA hA' hB hj hj64
          go_wp2
          clear hmk
          go_loopw [8] (fun i wx => ∃ j : Nat, j ≤ 64 ∧ i = .int .i64 j ∧ Arr wx .i64 w2.heap.size 64 (fun k => refS f k j) ∧ Arr wx .i64 ws.heap.size 64 wtF ∧ Below ws.heap.size ws wx) (fun i _ => 64 - (intOf i).toNat)
          case atStart => exact ⟨0, by omega, rfl, MO.out, HA.out, HB.out⟩
          case round =>
            obtain ⟨i, hii, rfl, hO, hA, hB⟩ := hrel
            by_cases hi64 : i < 64
            · have ib : (0 : Int) ≤ (i : Int) ∧ (i : Int) < 64 := by omega
              have ci := (H.out.below hB hblt).at i hi64
              by_cases h0 : f i = 0
              · have kd : (f i == 0) = true := by simp [h0]
                have HO : Hid (Arr wr .i64 w2.heap.size 64 (fun k => refS f k (i + 1))) := Lib.hid (hO.congr fun k _ => (refS_zero h0 k).symm)
                have HA := Lib.hid hA
                have HB := Lib.hid hB
                clear hO hA hB
                go_wp2
                go_roundw
                case rel => exact ⟨i + 1, by omega, by go_num, HO.out, HA.out, HB.out⟩
                case measure => simp [intOf]; omega
              · have kd : (f i == 0) = false := by simp [h0]
                have HO := Lib.hid hO
                have HA := Lib.hid hA
                have HB := Lib.hid hB
                clear hO hA hB
                go_wp2
                go_loopw [9] (fun q wx => ∃ k : Nat, k ≤ 64 ∧ q = .int .i64 k ∧ Arr wx .i64 w2.heap.size 64 (fun k' => if k' < k then refS f k' (i + 1) else refS f k' i) ∧ Arr wx .i64 ws.heap.size 64 wtF ∧ Below ws.heap.size ws wx) (fun q _ => 64 - (intOf q).toNat)
                case atStart => exact ⟨0, by omega, rfl, HO.out.start, HA.out, HB.out⟩
                case round =>
                  obtain ⟨k, hk, rfl, hO, hA, hB⟩ := hrel
                  by_cases hk64 : k < 64
                  · have kb : (0 : Int) ≤ (k : Int) ∧ (k : Int) < 64 := by omega
                    have ci := (H.out.below hB hblt).at i hi64
                    have ck := hO k hk64
                    simp only [Nat.lt_irrefl, if_false] at ck
                    obtain ⟨ck1, ck2⟩ := ck
                    have cA := (hA (i % 8 * 8 + k % 8) (by omega)).1
                    have cB := (hA (i / 8 * 8 + k / 8) (by omega)).1
                    rw [wtF_at _ _ (by omega)] at cA cB
                    have tb := term_bd f i k hi64 hk64 (FB.out i hi64)
                    have sb := refS_bd f k i hk64 (by omega) FB.out
                    have ev : Hid (refS f k (i + 1) = refS f k i + Wt (i % 8) (k % 8) * Wt (i / 8) (k / 8) * f i) := Lib.hid (refS_succ f i k)
                    obtain ⟨p, hp⟩ : ∃ p, p = Wt (i % 8) (k % 8) * Wt (i / 8) (k / 8) := ⟨_, rfl⟩
                    obtain ⟨t, ht⟩ : ∃ t, t = p * f i := ⟨_, rfl⟩
                    rw [← hp, ← ht] at tb ev
                    have pe : Wt (i % 8) (k % 8) * Wt (i / 8) (k / 8) = p := hp.symm
                    have te : p * f i = t := ht.symm
                    have x1 : IntKind.i64.wrap p = p := IntWalk.i64_in _ (by omega)
                    have x2 : IntKind.i64.wrap t = t := IntWalk.i64_in _ (by omega)
                    have x3 : IntKind.i64.wrap (refS f k i + t) = refS f k i + t := IntWalk.i64_in _ (by omega)
                    have t1 : (i : Int).tmod 8 = (i : Int) % 8 := Int.tmod_eq_emod_of_nonneg (by omega)
                    have t2 : (i : Int).tdiv 8 = (i : Int) / 8 := Int.tdiv_eq_ediv_of_nonneg (by omega)
                    have t3 : (k : Int).tmod 8 = (k : Int) % 8 := Int.tmod_eq_emod_of_nonneg (by omega)
                    have t4 : (k : Int).tdiv 8 = (k : Int) / 8 := Int.tdiv_eq_ediv_of_nonneg (by omega)
                    have r1 : 0 ≤ (i : Int) % 8 ∧ (i : Int) % 8 ≤ 7 ∧ 0 ≤ (k : Int) % 8 ∧ (k : Int) % 8 ≤ 7 := by omega
                    have r2 : 0 ≤ (i : Int) / 8 ∧ (i : Int) / 8 ≤ 7 ∧ 0 ≤ (k : Int) / 8 ∧ (k : Int) / 8 ≤ 7 := by omega
                    have y1 : ((i : Int) % 8 * 8 + (k : Int) % 8).toNat = i % 8 * 8 + k % 8 := by omega
                    have y2 : ((i : Int) / 8 * 8 + (k : Int) / 8).toNat = i / 8 * 8 + k / 8 := by omega
                    have q1 : (0 : Int) ≤ (i : Int) % 8 * 8 + (k : Int) % 8 ∧ (i : Int) % 8 * 8 + (k : Int) % 8 < 64 := by omega
                    have q2 : (0 : Int) ≤ (i : Int) / 8 * 8 + (k : Int) / 8 ∧ (i : Int) / 8 * 8 + (k : Int) / 8 < 64 := by omega
                    have z1 : IntKind.i64.wrap ((i : Int) % 8 * 8) = (i : Int) % 8 * 8 := IntWalk.i64_in _ (by omega)
                    have z2 : IntKind.i64.wrap ((i : Int) / 8 * 8) = (i : Int) / 8 * 8 := IntWalk.i64_in _ (by omega)
                    have z3 : IntKind.i64.wrap ((i : Int) % 8 * 8 + (k : Int) % 8) = (i : Int) % 8 * 8 + (k : Int) % 8 := IntWalk.i64_in _ (by omega)
                    have z4 : IntKind.i64.wrap ((i : Int) / 8 * 8 + (k : Int) / 8) = (i : Int) / 8 * 8 + (k : Int) / 8 := IntWalk.i64_in _ (by omega)
                    have HO := Lib.hid hO
                    have HA := Lib.hid hA
                    have HB := Lib.hid hB
                    clear hO hA hB hp ht tb sb kd
                    go_wp2_with fail
                    go_region
                    go_wp2
                    go_roundw
                    case rel => exact ⟨k + 1, by omega, by go_num, (HO.out.fill _ ev.out.symm).drew, (HA.out.far (a := ⟨w2.heap.size, k, none⟩) hne _).drew, (HB.out.setCell (p := ⟨w2.heap.size, k, none⟩) MS.out _).drew⟩
                    case measure => simp [intOf]; omega
                  · have hO' : Arr wr .i64 w2.heap.size 64 (fun k => refS f k (i + 1)) := by
                      obtain rfl : k = 64 := by omega
                      exact hO.filled
                    have hk' : 64 ≤ k := by omega
                    have HO := Lib.hid hO'
                    have HA := Lib.hid hA
                    have HB := Lib.hid hB
                    clear hO hA hB hO' hk hk64
                    go_wp2
                    go_roundw
                    case rel => exact ⟨i + 1, by omega, by go_num, HO.out, HA.out, HB.out⟩
                    case measure => simp [intOf]; omega
            · have hO' : Arr wr .i64 w2.heap.size 64 (colsC (rowsC f)) := by
                obtain rfl : i = 64 := by omega
                exact hO.congr fun k hk => refS_all f HOK.out k hk
              have hi' : 64 ≤ i := by omega
              have HO := Lib.hid hO'
              have HB := Lib.hid hB
              have BD := Lib.hid (inv_bd f HOK.out)
              clear hO hA hB hO' hii hi64
              go_wp2
              go_loopw [10] (fun q wx => ∃ k : Nat, k ≤ 64 ∧ q = .int .i64 k ∧ Arr wx .i64 w2.heap.size 64 (fun i => if i < k then invC f i else colsC (rowsC f) i) ∧ Below ws.heap.size ws wx) (fun q _ => 64 - (intOf q).toNat)
              case atStart => exact ⟨0, by omega, rfl, HO.out.start, HB.out⟩
              case round =>
                obtain ⟨k, hk, rfl, hO, hB⟩ := hrel
                by_cases hk64 : k < 64
                · have ck := hO k hk64
                  simp only [Nat.lt_irrefl, if_false] at ck
                  obtain ⟨ck1, ck2⟩ := ck
                  have bk := BD.out k hk64
                  have kb : (0 : Int) ≤ (k : Int) ∧ (k : Int) < 64 := by omega
                  have HO := Lib.hid hO
                  have HB := Lib.hid hB
                  clear hO hB
                  go_wp2
                  go_roundw
                  case rel => exact ⟨k + 1, by omega, by go_num, HO.out.fill _ rfl, HB.out.setCell (p := ⟨w2.heap.size, k, none⟩) MS.out _⟩
                  case measure => simp [intOf]; omega
                · have hO' : Arr wr .i64 w2.heap.size 64 (invC f) := by
                    obtain rfl : k = 64 := by omega
                    exact hO.filled
                  have hk' : 64 ≤ k := by omega
                  have HO := Lib.hid hO'
                  have HB := Lib.hid hB
                  clear hO hB hO' hk hk64
                  go_wp2
                  go_ret2
                  exact ⟨_, by rw [HE'.out]; rfl, by rw [HN'.out]; exact .inr ⟨w2.heap.size, 64, rfl, MS.out, HO.out.lt (by omega), Nat.le_refl _, by decide, HO.out⟩, HB.out⟩
theorem rInverse_any (v : Value) (n : Nat) (f : Nat → Int) (w : World) (hs : Sl .i64 w v n f) :
    Calls Tryz.prog 113 #[v] w (Inverts w n f) := by
  obtain ⟨a, c, rfl, h1, h2, h3⟩ := hs
  by_cases h : n = 64
  · subst h
    rcases h3 with ⟨h3, _⟩ | ⟨b, o, rfl, _, h4⟩
    · omega
    · exact rinverse_row b o c f w h4
  · exact rinverse_long a n c f w h
end Co
end Go.Proofs.YtbmglemjfodfhaaGreat
