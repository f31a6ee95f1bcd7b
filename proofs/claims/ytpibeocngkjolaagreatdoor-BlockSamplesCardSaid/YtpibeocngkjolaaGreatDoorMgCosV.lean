/- What the transform comes to: rows, and then columns. | cosine.Line. | cosine.Inverse. -/
import Derived.Test.YtpibeocngkjolaaGreatDoorMgCosE
import Derived.Deep.Cut
import Derived.Deep.RegionHeld3
set_option linter.unusedVariables false
set_option linter.unusedSimpArgs false

namespace Go.Proofs.YtpibeocngkjolaaGreatDoor
namespace Co

theorem accW_congr {l m : Nat → Int} {x n : Nat} (h : ∀ u, u < n → l u = m u) : accW l x n = accW m x n := by
  induction n with
  | zero => rfl
  | succ n ih =>
    have e := ih fun u hu => h u (by omega)
    have e2 := h n (by omega)
    simp only [accW, e, e2]
def rowsC (f : Nat → Int) (i : Nat) : Int := accW (fun u => f (8 * (i / 8) + u)) (i % 8) 8
def colsC (f : Nat → Int) (i : Nat) : Int := accW (fun u => f (8 * u + i % 8)) (i / 8) 8
theorem getAll_k (f : Nat → Int) (a s k : Nat) (hk : k ≤ 8) (j : Nat) : getAll f a s (first8 k) j = if j < k then f (a + j * s) else 0 := by
  induction k with
  | zero => rfl
  | succ k ih =>
    rw [← first8_succ k (by omega), getAll_snoc]
    show (if j = k then f (a + k * s) else getAll f a s (first8 k) j) = _
    rw [ih (by omega)]
    by_cases h : j = k
    · subst h; rw [if_pos rfl, if_pos (by omega)]
    · rw [if_neg h]
      by_cases g : j < k
      · rw [if_pos g, if_pos (by omega)]
      · rw [if_neg g, if_neg (by omega)]
theorem putAll_k (m : Nat → Int) (a s k : Nat) (hs : 1 ≤ s) (hk : k ≤ 8) (f : Nat → Int) (p : Nat) : putAll m a s (first8 k) f p = if a ≤ p ∧ (p - a) % s = 0 ∧ (p - a) / s < k then m ((p - a) / s) else f p := by
  induction k with
  | zero => rw [if_neg (fun h => Nat.not_lt_zero _ h.2.2)]; rfl
  | succ k ih =>
    rw [← first8_succ k (by omega), putAll_snoc]
    show (if p = a + k * s then m k else putAll m a s (first8 k) f p) = _
    rw [ih (by omega)]
    by_cases h : p = a + k * s
    · subst h
      rw [if_pos rfl]
      have e : a + k * s - a = k * s := by omega
      rw [e, Nat.mul_mod_left, Nat.mul_div_cancel _ (by omega : 0 < s), if_pos ⟨by omega, rfl, by omega⟩]
    · rw [if_neg h]
      by_cases g : a ≤ p ∧ (p - a) % s = 0 ∧ (p - a) / s < k
      · rw [if_pos g, if_pos ⟨g.1, g.2.1, by omega⟩]
      · rw [if_neg g, if_neg]
        rintro ⟨g1, g2, g3⟩
        have hk : (p - a) / s = k := by
          rcases Nat.lt_or_ge ((p - a) / s) k with l | l
          · exact absurd ⟨g1, g2, l⟩ g
          · omega
        have := Nat.div_add_mod (p - a) s
        rw [g2, hk, Nat.mul_comm] at this
        omega
theorem lineAt_at (b s : Nat) (hs : 1 ≤ s) (f : Nat → Int) (i : Fin 8) (p : Nat) : lineAt b s f i p = if i.val * b ≤ p ∧ (p - i.val * b) % s = 0 ∧ (p - i.val * b) / s < 8 then accW (fun u => f (i.val * b + u * s)) ((p - i.val * b) / s) 8 else f p := by
  unfold lineAt
  rw [← first8_all, putAll_k _ _ _ _ hs (by omega)]
  by_cases h : i.val * b ≤ p ∧ (p - i.val * b) % s = 0 ∧ (p - i.val * b) / s < 8
  · rw [if_pos h, if_pos h]
    exact accW_congr fun u hu => by rw [getAll_k _ _ _ _ (by omega), if_pos hu]
  · rw [if_neg h, if_neg h]
theorem rows_k (f : Nat → Int) (k : Nat) (hk : k ≤ 8) (i : Nat) : eachF 8 1 f (first8 k) i = if i / 8 < k then rowsC f i else f i := by
  induction k generalizing i with
  | zero => rw [if_neg (by omega)]; rfl
  | succ k ih =>
    rw [← first8_succ k (by omega), eachF_snoc, lineAt_at _ _ (by omega)]
    show (if k * 8 ≤ i ∧ (i - k * 8) % 1 = 0 ∧ (i - k * 8) / 1 < 8 then accW (fun u => eachF 8 1 f (first8 k) (k * 8 + u * 1)) ((i - k * 8) / 1) 8 else eachF 8 1 f (first8 k) i) = _
    rw [ih (by omega)]
    by_cases h : i / 8 = k
    · rw [if_pos (by omega), if_pos (by omega)]
      unfold rowsC
      have e1 : (i - k * 8) / 1 = i % 8 := by omega
      rw [e1]
      refine accW_congr fun u hu => ?_
      rw [ih (by omega), if_neg (by omega)]
      congr 1; omega
    · rw [if_neg (by omega)]
      by_cases g : i / 8 < k
      · rw [if_pos g, if_pos (by omega)]
      · rw [if_neg g, if_neg (by omega)]
theorem cols_k (f : Nat → Int) (k : Nat) (hk : k ≤ 8) (i : Nat) (hi : i < 64) : eachF 1 8 f (first8 k) i = if i % 8 < k then colsC f i else f i := by
  induction k generalizing i with
  | zero => rw [if_neg (by omega)]; rfl
  | succ k ih =>
    rw [← first8_succ k (by omega), eachF_snoc, lineAt_at _ _ (by omega)]
    show (if k * 1 ≤ i ∧ (i - k * 1) % 8 = 0 ∧ (i - k * 1) / 8 < 8 then accW (fun u => eachF 1 8 f (first8 k) (k * 1 + u * 8)) ((i - k * 1) / 8) 8 else eachF 1 8 f (first8 k) i) = _
    rw [ih (by omega) i hi]
    by_cases h : i % 8 = k
    · rw [if_pos (by omega), if_pos (by omega)]
      unfold colsC
      have e1 : (i - k * 1) / 8 = i / 8 := by omega
      rw [e1]
      refine accW_congr fun u hu => ?_
      rw [ih (by omega) _ (by omega), if_neg (by omega)]
      congr 1; omega
    · rw [if_neg (by omega)]
      by_cases g : i % 8 < k
      · rw [if_pos g, if_pos (by omega)]
      · rw [if_neg g, if_neg (by omega)]
theorem each_rows (f : Nat → Int) (i : Nat) (hi : i < 64) : eachF 8 1 f (List.finRange 8) i = rowsC f i := by
  rw [← first8_all, rows_k f 8 (by omega), if_pos (by omega)]
theorem each_cols (f : Nat → Int) (i : Nat) (hi : i < 64) : eachF 1 8 f (List.finRange 8) i = colsC f i := by
  rw [← first8_all, cols_k f 8 (by omega) i hi, if_pos (by omega)]
end Co
end Go.Proofs.YtpibeocngkjolaaGreatDoor

namespace Go.Proofs.YtpibeocngkjolaaGreatDoor
open Go.RowKit

theorem Ints.range {w : World} {k : IntKind} {b o n : Nat} {f : Nat → Int} (h : Ints w k b o n f) : w.rangeAt b o ((List.range n).map fun i => Value.int k (f i)) := by
  intro j u hu
  have hj : j < n := by
    have := (List.getElem?_eq_some_iff.1 hu).1
    simpa using this
  rw [h j hj]
  simpa [hj] using hu
/-- numbers of a slice, loaded as an array. -/
theorem wpList_load_ints {P : Program} {ops : Array Oper} {rest : List Oper} {o : Oper} {a : Act} {w : World} {Q : Exit → Act → World → Prop} (hgd : o.guard = none) (ty : TypeId) (x : Operand) (ho : o.op = .load ty x)
    {k : IntKind} {g off n m : Nat} {f : Nat → Int} {e : TypeId} (hx : a.eval x = .pointer (some ⟨g, off, none⟩)) (h : Ints w k g off n f) (hu : P.underlying ty = some (.array m e)) (hi : (P.info? ty).map (·.size) = some n)
    (hK : wpList P ops Q rest (a.put o.dst (.agg (rowOf k n f))) w) : wpList P ops Q (o :: rest) a w :=
  wpList_load_mid hgd ty x ho g off hx ((List.range n).map fun i => Value.int k (f i)) (.array m e) h.range hu rfl (by simpa using hi) hK
theorem run_arrayAt {P : Program} (w : World) {ty e : TypeId} {m n c : Nat} {a : Option Addr} (hu : P.underlying ty = some (.array m e)) (h : m ≤ n) : (Instr.arrayAt ty (.slice a n c)).run P w = .ok (.pointer a) w := by
  have : ¬ n < m := by omega
  simp [Instr.arrayAt, run_underlying hu w, this]
namespace Co

def inR (lo hi x : Int) : Bool := decide (lo ≤ x ∧ x ≤ hi)
theorem inR_yes {lo hi x : Int} (h : inR lo hi x = true) : lo ≤ x ∧ x ≤ hi := by unfold inR at h; simpa using h
theorem inR_no {lo hi x : Int} (h : inR lo hi x = false) : x < lo ∨ hi < x := by unfold inR at h; simp only [decide_eq_false_iff_not] at h; omega
/-- may the first k numbers all be taken? -/
def okR (lo hi : Int) (f : Nat → Int) (k : Nat) : Bool := (List.range k).all fun i => inR lo hi (f i)
theorem okR_succ (lo hi : Int) (f : Nat → Int) (k : Nat) : okR lo hi f (k + 1) = (okR lo hi f k && inR lo hi (f k)) := by unfold okR; rw [List.range_succ]; simp
theorem okR_at {lo hi : Int} {f : Nat → Int} {k : Nat} (h : okR lo hi f k = true) (i : Nat) (hik : i < k) : inR lo hi (f i) = true := by
  unfold okR at h; rw [List.all_eq_true] at h; exact h i (List.mem_range.2 hik)
theorem okR_not {lo hi : Int} {f : Nat → Int} {k i : Nat} (hik : i < k) (h : inR lo hi (f i) = false) : okR lo hi f k = false := by
  cases e : okR lo hi f k
  · rfl
  · rw [okR_at e i hik] at h; cases h
theorem okR_all {lo hi : Int} {f : Nat → Int} {k : Nat} (h : ∀ i, i < k → lo ≤ f i ∧ f i ≤ hi) : okR lo hi f k = true := by
  unfold okR; rw [List.all_eq_true]; intro i hik
  have := h i (List.mem_range.1 hik)
  unfold inR; simp; omega
def okL (f : Nat → Int) (k : Nat) : Bool := okR (-1099511627776) 1099511627776 f k
/-- the error of Line, and how many numbers it tells. -/
def lE (n : Nat) (f : Nat → Int) : Int := if n = 8 then (if okL f 8 then 0 else 3) else 2
def lN (n : Nat) (f : Nat → Int) : Nat := if n = 8 then (if okL f 8 then 8 else 0) else 0
def lineC (f : Nat → Int) (x : Nat) : Int := accW f x 8
/-- what Line comes to. -/
def Lines (w : World) (n : Nat) (f : Nat → Int) (e : Ending) (w' : World) : Prop :=
  ∃ v, e = .returned (.tuple #[v, .int .i64 (lE n f)]) ∧ Res .i64 w.heap.size w' v (lN n f) (lineC f) ∧ Below w.heap.size w w'

end Co
end Go.Proofs.YtpibeocngkjolaaGreatDoor

namespace Go.Proofs.YtpibeocngkjolaaGreatDoor
open Go.RowKit
namespace Co

def okV (f : Nat → Int) (k : Nat) : Bool := okR (-2048) 2047 f k
/-- the error of Inverse, and how many numbers it tells. -/
def vE (n : Nat) (f : Nat → Int) : Int := if n = 64 then (if okV f 64 then 0 else 3) else 2
def vN (n : Nat) (f : Nat → Int) : Nat := if n = 64 then (if okV f 64 then 64 else 0) else 0
def invC (f : Nat → Int) (i : Nat) : Int := (colsC (rowsC f) i + 8388608) / 16777216
/-- what Inverse comes to. -/
def Inverts (w : World) (n : Nat) (f : Nat → Int) (e : Ending) (w' : World) : Prop :=
  ∃ v, e = .returned (.tuple #[v, .int .i64 (vE n f)]) ∧ Res .i64 w.heap.size w' v (vN n f) (invC f) ∧ Below w.heap.size w w'

theorem inverse_long (a : Option Addr) (n c : Nat) (f : Nat → Int) (w : World) (h : n ≠ 64) :
    Calls Tryz.prog 56 #[.slice a n c] w (Inverts w n f) := by
  have e1 : vE n f = 2 := by unfold vE; rw [if_neg h]
  have e2 : vN n f = 0 := by unfold vN; rw [if_neg h]
  have k : ((n : Int) == 64) = false := by simp; omega
  have E1 := Lib.hid e1
  have E2 := Lib.hid e2
  clear e1 e2
  go_enter Tryz.func56, Tryz.ntmps56
  go_wp2
  go_ret2
  exact ⟨.slice none 0 0, by rw [E1.out]; rfl, by rw [E2.out]; exact .inl ⟨rfl, rfl⟩, Below.refl _ _⟩

/-- two blocks of the call's own. -/
def TwoFresh (w W : World) (g1 g2 : Nat) : Prop := Arr W .i64 g1 64 (fun _ => 0) ∧ Arr W .i64 g2 64 (fun _ => 0) ∧ g1 ≠ g2 ∧ w.heap.size ≤ g1 ∧ w.heap.size ≤ g2 ∧ Below w.heap.size w W
theorem TwoFresh.swap {w W : World} {g1 g2 : Nat} (h : TwoFresh w W g1 g2) : TwoFresh w W g2 g1 := ⟨h.2.1, h.1, h.2.2.1.symm, h.2.2.2.2.1, h.2.2.2.1, h.2.2.2.2.2⟩
def Zb (t : TypeId) : Obj := .cells (rowOf .i64 64 fun _ => 0) t
theorem zb_new (w : World) (t : TypeId) : Arr (w.alloc (Zb t)) .i64 w.heap.size 64 (fun _ => 0) := Arr.new w .i64 _ t 64 _ (fun i hi => rowOf_get _ _ _ _ hi)
theorem twoA {w w1 : World} {t1 t2 : TypeId} (_h : w = w) (b : Below w.drew.heap.size w.drew w1) : TwoFresh w ((w1.alloc (Zb t1)).alloc (Zb t2)) w1.heap.size (w1.heap.size + 1) := by
  have m1 := (zb_new w1 t1).alloc (Zb t2)
  have m2 := zb_new (w1.alloc (Zb t1)) t2
  rw [World.size_alloc] at m2
  have hb := chain ((Below.refl w.heap.size w).drew) b
  have hz := hb.size
  exact ⟨m1, m2, by omega, by omega, by omega, (hb.alloc hz _).alloc (by simp; omega) _⟩
theorem twoB {w w1 : World} {t1 t2 : TypeId} (_h : w = w) (b : Below (w.alloc (Zb t1)).drew.heap.size (w.alloc (Zb t1)).drew w1) : TwoFresh w (w1.alloc (Zb t2)) w.heap.size w1.heap.size := by
  have hs : (w.alloc (Zb t1)).drew.heap.size = w.heap.size + 1 := by show (w.alloc (Zb t1)).heap.size = _; simp
  have m1 := (((zb_new w t1).drew).below b (by omega)).alloc (Zb t2)
  have m2 := zb_new w1 t2
  have hb := chain (((Below.refl w.heap.size w).alloc (Nat.le_refl _) (Zb t1)).drew) b
  have hz := b.size
  exact ⟨m1, m2, by omega, by omega, by omega, hb.alloc (by omega) _⟩
theorem twoC {w w1 : World} {t1 t2 : TypeId} (_h : w = w) (b : Below ((w.alloc (Zb t1)).alloc (Zb t2)).drew.heap.size ((w.alloc (Zb t1)).alloc (Zb t2)).drew w1) : TwoFresh w w1 w.heap.size (w.heap.size + 1) := by
  have hs : ((w.alloc (Zb t1)).alloc (Zb t2)).drew.heap.size = w.heap.size + 1 + 1 := by show ((w.alloc (Zb t1)).alloc (Zb t2)).heap.size = _; simp
  have m1 := (((zb_new w t1).alloc (Zb t2)).drew).below b (by omega)
  have m2 := ((zb_new (w.alloc (Zb t1)) t2).drew).below b (by simp only [World.size_alloc]; omega)
  rw [World.size_alloc] at m2
  have hb := chain ((((Below.refl w.heap.size w).alloc (Nat.le_refl _) (Zb t1)).alloc (by simp) (Zb t2)).drew) b
  exact ⟨m1, m2, by omega, by omega, by omega, hb⟩

theorem zeros64 : (#[.int .i64 0, .int .i64 0, .int .i64 0, .int .i64 0, .int .i64 0, .int .i64 0, .int .i64 0, .int .i64 0, .int .i64 0, .int .i64 0, .int .i64 0, .int .i64 0, .int .i64 0, .int .i64 0, .int .i64 0, .int .i64 0, .int .i64 0, .int .i64 0, .int .i64 0, .int .i64 0, .int .i64 0, .int .i64 0, .int .i64 0, .int .i64 0, .int .i64 0, .int .i64 0, .int .i64 0, .int .i64 0, .int .i64 0, .int .i64 0, .int .i64 0, .int .i64 0, .int .i64 0, .int .i64 0, .int .i64 0, .int .i64 0, .int .i64 0, .int .i64 0, .int .i64 0, .int .i64 0, .int .i64 0, .int .i64 0, .int .i64 0, .int .i64 0, .int .i64 0, .int .i64 0, .int .i64 0, .int .i64 0, .int .i64 0, .int .i64 0, .int .i64 0, .int .i64 0, .int .i64 0, .int .i64 0, .int .i64 0, .int .i64 0, .int .i64 0, .int .i64 0, .int .i64 0, .int .i64 0, .int .i64 0, .int .i64 0, .int .i64 0, .int .i64 0] : Array Value) = rowOf .i64 64 (fun _ => 0) := by kernel_rfl
section
variable {w W : World} {ga gw : Nat} (h : TwoFresh w W ga gw) (f f2 : Nat → Int)
include h
theorem tf_there1 : W.there ga 0 (rowOf .i64 64 f).size := by rw [rowOf_size]; exact h.1.there
theorem tf_below1 : Below w.heap.size w (W.setCells ga 0 (rowOf .i64 64 f).toList) := h.2.2.2.2.2.grown (grown_setCells ga _ 0 W) h.2.2.2.2.2.size (fun g hg => by cases hg; exact h.2.2.2.1)
theorem tf_arr2 : Arr (W.setCells ga 0 (rowOf .i64 64 f).toList) .i64 gw 64 (fun _ => 0) := h.2.1.grown (grown_setCells ga _ 0 W) (fun e => h.2.2.1 (Option.some.inj e).symm)
theorem tf_arr1 : Arr (W.setCells ga 0 (rowOf .i64 64 f).toList) .i64 ga 64 f := h.1.storeAll .i64 f
omit h in
theorem tf_there2 {W1 : World} (hW : Arr W1 .i64 gw 64 (fun _ => 0)) : W1.there gw 0 (rowOf .i64 64 f2).size := by rw [rowOf_size]; exact hW.there
theorem tf_below2 {W1 : World} (hB : Below w.heap.size w W1) : Below w.heap.size w (W1.setCells gw 0 (rowOf .i64 64 f2).toList) := hB.grown (grown_setCells gw _ 0 _) hB.size (fun g hg => by cases hg; exact h.2.2.2.2.1)
/-- behind both were stored. -/
theorem tf_end {W1 : World} (hA : Arr W1 .i64 ga 64 f) (hW : Arr W1 .i64 gw 64 (fun _ => 0)) (hB : Below w.heap.size w W1) : ∃ ga' gw', Value.pointer (some ⟨ga, 0, none⟩) = .pointer (some ⟨ga', 0, none⟩) ∧ Value.pointer (some ⟨gw, 0, none⟩) = .pointer (some ⟨gw', 0, none⟩) ∧ ga' ≠ gw' ∧ w.heap.size ≤ ga' ∧ w.heap.size ≤ gw' ∧ Arr (W1.setCells gw 0 (rowOf .i64 64 f2).toList) .i64 ga' 64 f ∧ Arr (W1.setCells gw 0 (rowOf .i64 64 f2).toList) .i64 gw' 64 f2 ∧ Below w.heap.size w (W1.setCells gw 0 (rowOf .i64 64 f2).toList) :=
  ⟨ga, gw, rfl, rfl, h.2.2.1, h.2.2.2.1, h.2.2.2.2.1, hA.grown (grown_setCells gw _ 0 _) (fun e => h.2.2.1 (Option.some.inj e)), hW.storeAll .i64 f2, tf_below2 h f2 hB⟩
end
theorem size64 (t : TypeId) (f : Nat → Int) (h : (Tryz.prog.info? t).map (·.size) = some 64) : (Tryz.prog.info? t).map (·.size) = some (rowOf .i64 64 f).size := by rw [rowOf_size]; exact h

theorem colsC_congr {f g : Nat → Int} (h : ∀ i, i < 64 → f i = g i) (i : Nat) (hi : i < 64) : colsC f i = colsC g i := accW_congr fun u hu => h _ (by omega)
theorem rowsC_congr {f g : Nat → Int} (h : ∀ i, i < 64 → f i = g i) (i : Nat) (hi : i < 64) : rowsC f i = rowsC g i := accW_congr fun u hu => h _ (by omega)
theorem two_each (f : Nat → Int) (i : Nat) (hi : i < 64) : eachF 1 8 (eachF 8 1 f (List.finRange 8)) (List.finRange 8) i = colsC (rowsC f) i := by
  rw [each_cols _ i hi]
  exact colsC_congr (fun i hi => each_rows f i hi) i hi
theorem accW_bd (l : Nat → Int) (B : Int) (hB : 0 ≤ B ∧ B ≤ 1099511627776) (hl : ∀ u, u < 8 → -B ≤ l u ∧ l u ≤ B) (x : Nat) (hx : x < 8) : -(16384 * B) ≤ accW l x 8 ∧ accW l x 8 ≤ 16384 * B := by
  rw [accW_sum l B hB hl x hx 8 (Nat.le_refl 8)]
  have := part_bd l B hl 8 x (by omega) hx
  omega
theorem rowsC_bd (f : Nat → Int) (B : Int) (hB : 0 ≤ B ∧ B ≤ 1099511627776) (hf : ∀ i, i < 64 → -B ≤ f i ∧ f i ≤ B) (i : Nat) (hi : i < 64) : -(16384 * B) ≤ rowsC f i ∧ rowsC f i ≤ 16384 * B :=
  accW_bd _ B hB (fun u hu => hf _ (by omega)) _ (by omega)
theorem colsC_bd (f : Nat → Int) (B : Int) (hB : 0 ≤ B ∧ B ≤ 1099511627776) (hf : ∀ i, i < 64 → -B ≤ f i ∧ f i ≤ B) (i : Nat) (hi : i < 64) : -(16384 * B) ≤ colsC f i ∧ colsC f i ≤ 16384 * B :=
  accW_bd _ B hB (fun u hu => hf _ (by omega)) _ (by omega)
theorem inv_bd (f : Nat → Int) (h : okV f 64 = true) (i : Nat) (hi : i < 64) : -1000000000000 ≤ colsC (rowsC f) i ∧ colsC (rowsC f) i ≤ 1000000000000 := by
  have h1 := rowsC_bd f 2048 (by omega) (fun i hi => by have := inR_yes (okR_at h i hi); omega)
  have h2 := colsC_bd (rowsC f) (16384 * 2048) (by omega) h1 i hi
  omega

set_option maxRecDepth 100000 in
set_option maxHeartbeats 4000000 in
theorem inverse_row (b o c : Nat) (f : Nat → Int) (w : World) (h : Ints w .i64 b o 64 f) :
    Calls Tryz.prog 56 #[.slice (some ⟨b, o, none⟩) 64 c] w (Inverts w 64 f) := by
  have hblt := h.lt (by omega)
  have H := Lib.hid h
  have HE : Hid (vE 64 f = if okV f 64 then 0 else 3) := by show _ = _; unfold vE; rw [if_pos rfl]
  have HN : Hid (vN 64 f = if okV f 64 then 64 else 0) := by show _ = _; unfold vN; rw [if_pos rfl]
  clear h
  go_enter Tryz.func56, Tryz.ntmps56
  go_wp2
  go_loopw [14] (fun i wr => ∃ k : Nat, k ≤ 64 ∧ i = .int .i64 k ∧ okV f k = true ∧ wr = w) (fun i _ => 64 - (intOf i).toNat)
  case atStart => exact ⟨0, by omega, rfl, rfl, rfl⟩
  case round =>
    obtain ⟨k, hk, rfl, hok, rfl⟩ := hrel
    by_cases hk8 : k < 64
    · have ck := H.out.at k hk8
      have kb : (0 : Int) ≤ (k : Int) ∧ (k : Int) < 64 := by omega
      have OK := Lib.hid hok
      clear hok
      cases hkk : inR (-2048) 2047 (f k)
      · have EA : Hid (okV f 64 = false) := Lib.hid (okR_not hk8 hkk)
        rcases inR_no hkk with g | g
        · have _d : decide (f k < -2048) = true := by simp; omega
          clear hkk
          go_wp2
          go_ret2
          exact ⟨.slice none 0 0, by rw [HE.out, EA.out]; rfl, by rw [HN.out, EA.out]; exact .inl ⟨rfl, rfl⟩, Below.refl _ _⟩
        · have _d : decide (f k < -2048) = false := by simp; omega
          have _d2 : decide (2047 < f k) = true := by simp; omega
          clear hkk
          go_wp2
          go_ret2
          exact ⟨.slice none 0 0, by rw [HE.out, EA.out]; rfl, by rw [HN.out, EA.out]; exact .inl ⟨rfl, rfl⟩, Below.refl _ _⟩
      · have g := inR_yes hkk
        have _d : decide (f k < -2048) = false := by simp; omega
        have _d2 : decide (2047 < f k) = false := by simp; omega
        have KK := Lib.hid hkk
        clear hkk
        go_wp2
        go_roundw
        case rel => exact ⟨k + 1, by omega, by go_num, by have := OK.out; unfold okV at *; rw [okR_succ, this, KK.out]; rfl, by first | rfl | trivial⟩
        case measure => simp [intOf]; omega
    · have hok' : okV f 64 = true := by
        obtain rfl : k = 64 := by omega
        exact hok
      have HE' : Hid (vE 64 f = 0) := Lib.hid (by rw [HE.out, hok']; rfl)
      have HN' : Hid (vN 64 f = 64) := Lib.hid (by rw [HN.out, hok']; rfl)
      have HOK := Lib.hid hok'
      have hk' : 64 ≤ k := by omega
      have SA := fun w' => run_arrayAt (P := Tryz.prog) (n := 64) (c := c) (a := some ⟨b, o, none⟩) w' Tryz.underlying106 (Nat.le_refl 64)
      clear hok hok' hk hk8 HE HN
      have LD := H.out.range
      have HW0 : wr = wr := rfl
      have HZ := zeros64
      go_upto_region 9 with fail
      go_cut [6, 7] from 25 (fun u6 u7 wx => ∃ ga gw, u6 = .pointer (some ⟨ga, 0, none⟩) ∧ u7 = .pointer (some ⟨gw, 0, none⟩) ∧ ga ≠ gw ∧ wr.heap.size ≤ ga ∧ wr.heap.size ≤ gw ∧ Arr wx .i64 ga 64 f ∧ Arr wx .i64 gw 64 wtF ∧ Below wr.heap.size wr wx)
      case first =>
        refine wp_region_held_drew (S := fun W => Below wr.heap.size wr W) (by kernel_rfl) (Below.refl _ _).drew (fun hS => ?_)
        refine wpAnyH_take (i := 0) (oi := _) (v := .slice (some ⟨b, o, none⟩) 64 c) rfl (by kernel_rfl) (by kernel_rfl) (by kernel_rfl) (fun _ _ _ h => h) (Or.inl ⟨by rfl, fun w _ => by go_simp⟩) hS ?_
        simp only [Act.put, List.setIfInBounds_toArray, List.set_cons_zero, List.set_cons_succ]
        refine wpAnyH_take (i := 1) (oi := _) (v := .pointer (some ⟨b, o, none⟩)) rfl (by kernel_rfl) (by kernel_rfl) (by kernel_rfl) (fun _ _ _ h => h) (Or.inl ⟨by rfl, fun w _ => by go_simp⟩) hS ?_
        simp only [Act.put, List.setIfInBounds_toArray, List.set_cons_zero, List.set_cons_succ]
        refine wpAnyH_take (i := 2) (oi := _) (v := .agg (rowOf .i64 64 f)) rfl (by kernel_rfl) (by kernel_rfl) (by kernel_rfl) (fun _ _ _ h => h)
          (yieldsIf_load_mid (by rfl) _ _ rfl b o rfl ((List.range 64).map fun i => Value.int .i64 (f i)) _ (fun w hw => (H.out.below hw hblt).range) Tryz.underlying106 rfl (by kernel_rfl)) hS ?_
        simp only [Act.put, List.setIfInBounds_toArray, List.set_cons_zero, List.set_cons_succ]
        refine wpAnyH_ready (rs := [3, 4, 5]) (by kernel_rfl) (by simp) ?_
        refine AllReadyH.cons (o := _) rfl (fun K hK => ?_) ?_
        · go_simp
          go_at_call 80; refine (weights_any _).mono ?_; rintro e w1 ⟨rfl, b1⟩
          refine hK.out _ _ (chain hS b1) (fun hS => ?_)
          clear hK K
          try simp only [Act.put, List.setIfInBounds_toArray, List.set_cons_zero, List.set_cons_succ]
          refine wpAnyH_ready (rs := [4, 5]) (by kernel_rfl) (by simp) ?_
          refine AllReadyH.cons (o := _) rfl (fun K hK => ?_) ?_
          · go_simp
            refine hK.out _ _ (hS.alloc hS.size _) (fun hS => ?_)
            clear hK K
            try simp only [Act.put, List.setIfInBounds_toArray, List.set_cons_zero, List.set_cons_succ]
            refine wpAnyH_ready (rs := [5]) (by kernel_rfl) (by simp) ?_
            refine AllReadyH.cons (o := _) rfl (fun K hK => ?_) AllReadyH.nil
            go_simp
            refine hK.out _ _ (hS.alloc hS.size _) (fun hS => ?_)
            clear hK K
            try simp only [Act.put, List.setIfInBounds_toArray, List.set_cons_zero, List.set_cons_succ]
            refine wpAnyH_ready (rs := [6]) (by kernel_rfl) (by simp) ?_
            refine AllReadyH.cons (o := _) rfl (fun K hK => ?_) AllReadyH.nil
            rw [if_pos (by rfl)]
            have TF := (twoA (t1 := 106) (t2 := 112) HW0 b1)
            try simp only [Zb] at TF
            refine wp_store_mid _ _ _ rfl _ 0 (rowOf .i64 64 f) rfl rfl (tf_there1 TF f) (size64 _ f (by kernel_rfl)) (rowOf_one _ _ _) ?_
            refine hK.out _ _ (tf_below1 TF f) (fun hS => ?_)
            clear hK K
            try simp only [Act.put, List.setIfInBounds_toArray, List.set_cons_zero, List.set_cons_succ]
            have FA1 := tf_arr1 TF f
            have FW1 := tf_arr2 TF f
            generalize hWW : World.setCells _ _ _ _ = WW
            rw [hWW] at FA1 FW1 hS
            clear hWW
            refine wpAnyH_ready (rs := [7]) (by kernel_rfl) (by simp) ?_
            refine AllReadyH.cons (o := _) rfl (fun K hK => ?_) AllReadyH.nil
            rw [if_pos (by rfl)]
            refine wp_store_mid _ _ _ rfl _ 0 (rowOf .i64 64 wtF) rfl rfl (tf_there2 wtF FW1) (size64 _ wtF (by kernel_rfl)) (rowOf_one _ _ _) ?_
            refine hK.out _ _ (tf_below2 TF wtF hS) (fun hS2 => ?_)
            clear hK K
            try simp only [Act.put, List.setIfInBounds_toArray, List.set_cons_zero, List.set_cons_succ]
            refine wpAnyH_done (by kernel_rfl) ?_ _
            go_wp2_with fail
            go_meet
            exact tf_end TF f wtF FA1 FW1 hS
          refine AllReadyH.cons (o := _) rfl (fun K hK => ?_) AllReadyH.nil
          go_simp
          refine hK.out _ _ (hS.alloc hS.size _) (fun hS => ?_)
          clear hK K
          try simp only [Act.put, List.setIfInBounds_toArray, List.set_cons_zero, List.set_cons_succ]
          refine wpAnyH_ready (rs := [4]) (by kernel_rfl) (by simp) ?_
          refine AllReadyH.cons (o := _) rfl (fun K hK => ?_) AllReadyH.nil
          go_simp
          refine hK.out _ _ (hS.alloc hS.size _) (fun hS => ?_)
          clear hK K
          try simp only [Act.put, List.setIfInBounds_toArray, List.set_cons_zero, List.set_cons_succ]
          refine wpAnyH_ready (rs := [6]) (by kernel_rfl) (by simp) ?_
          refine AllReadyH.cons (o := _) rfl (fun K hK => ?_) AllReadyH.nil
          rw [if_pos (by rfl)]
          have TF := (twoA (t1 := 112) (t2 := 106) HW0 b1).swap
          try simp only [Zb] at TF
          refine wp_store_mid _ _ _ rfl _ 0 (rowOf .i64 64 f) rfl rfl (tf_there1 TF f) (size64 _ f (by kernel_rfl)) (rowOf_one _ _ _) ?_
          refine hK.out _ _ (tf_below1 TF f) (fun hS => ?_)
          clear hK K
          try simp only [Act.put, List.setIfInBounds_toArray, List.set_cons_zero, List.set_cons_succ]
          have FA1 := tf_arr1 TF f
          have FW1 := tf_arr2 TF f
          generalize hWW : World.setCells _ _ _ _ = WW
          rw [hWW] at FA1 FW1 hS
          clear hWW
          refine wpAnyH_ready (rs := [7]) (by kernel_rfl) (by simp) ?_
          refine AllReadyH.cons (o := _) rfl (fun K hK => ?_) AllReadyH.nil
          rw [if_pos (by rfl)]
          refine wp_store_mid _ _ _ rfl _ 0 (rowOf .i64 64 wtF) rfl rfl (tf_there2 wtF FW1) (size64 _ wtF (by kernel_rfl)) (rowOf_one _ _ _) ?_
          refine hK.out _ _ (tf_below2 TF wtF hS) (fun hS2 => ?_)
          clear hK K
          try simp only [Act.put, List.setIfInBounds_toArray, List.set_cons_zero, List.set_cons_succ]
          refine wpAnyH_done (by kernel_rfl) ?_ _
          go_wp2_with fail
          go_meet
          exact tf_end TF f wtF FA1 FW1 hS
        refine AllReadyH.cons (o := _) rfl (fun K hK => ?_) ?_
        · go_simp
          refine hK.out _ _ (hS.alloc hS.size _) (fun hS => ?_)
          clear hK K
          try simp only [Act.put, List.setIfInBounds_toArray, List.set_cons_zero, List.set_cons_succ]
          refine wpAnyH_ready (rs := [3, 5]) (by kernel_rfl) (by simp) ?_
          refine AllReadyH.cons (o := _) rfl (fun K hK => ?_) ?_
          · go_simp
            go_at_call 80; refine (weights_any _).mono ?_; rintro e w1 ⟨rfl, b1⟩
            refine hK.out _ _ (chain hS b1) (fun hS => ?_)
            clear hK K
            try simp only [Act.put, List.setIfInBounds_toArray, List.set_cons_zero, List.set_cons_succ]
            refine wpAnyH_ready (rs := [5]) (by kernel_rfl) (by simp) ?_
            refine AllReadyH.cons (o := _) rfl (fun K hK => ?_) AllReadyH.nil
            go_simp
            refine hK.out _ _ (hS.alloc hS.size _) (fun hS => ?_)
            clear hK K
            try simp only [Act.put, List.setIfInBounds_toArray, List.set_cons_zero, List.set_cons_succ]
            refine wpAnyH_ready (rs := [6]) (by kernel_rfl) (by simp) ?_
            refine AllReadyH.cons (o := _) rfl (fun K hK => ?_) AllReadyH.nil
            rw [if_pos (by rfl)]
            have TF := (twoB (t1 := 106) (t2 := 112) HW0 b1)
            try simp only [Zb] at TF
            refine wp_store_mid _ _ _ rfl _ 0 (rowOf .i64 64 f) rfl rfl (tf_there1 TF f) (size64 _ f (by kernel_rfl)) (rowOf_one _ _ _) ?_
            refine hK.out _ _ (tf_below1 TF f) (fun hS => ?_)
            clear hK K
            try simp only [Act.put, List.setIfInBounds_toArray, List.set_cons_zero, List.set_cons_succ]
            have FA1 := tf_arr1 TF f
            have FW1 := tf_arr2 TF f
            generalize hWW : World.setCells _ _ _ _ = WW
            rw [hWW] at FA1 FW1 hS
            clear hWW
            refine wpAnyH_ready (rs := [7]) (by kernel_rfl) (by simp) ?_
            refine AllReadyH.cons (o := _) rfl (fun K hK => ?_) AllReadyH.nil
            rw [if_pos (by rfl)]
            refine wp_store_mid _ _ _ rfl _ 0 (rowOf .i64 64 wtF) rfl rfl (tf_there2 wtF FW1) (size64 _ wtF (by kernel_rfl)) (rowOf_one _ _ _) ?_
            refine hK.out _ _ (tf_below2 TF wtF hS) (fun hS2 => ?_)
            clear hK K
            try simp only [Act.put, List.setIfInBounds_toArray, List.set_cons_zero, List.set_cons_succ]
            refine wpAnyH_done (by kernel_rfl) ?_ _
            go_wp2_with fail
            go_meet
            exact tf_end TF f wtF FA1 FW1 hS
          refine AllReadyH.cons (o := _) rfl (fun K hK => ?_) AllReadyH.nil
          go_simp
          refine hK.out _ _ (hS.alloc hS.size _) (fun hS => ?_)
          clear hK K
          try simp only [Act.put, List.setIfInBounds_toArray, List.set_cons_zero, List.set_cons_succ]
          refine wpAnyH_ready (rs := [3]) (by kernel_rfl) (by simp) ?_
          refine AllReadyH.cons (o := _) rfl (fun K hK => ?_) AllReadyH.nil
          go_simp
          go_at_call 80; refine (weights_any _).mono ?_; rintro e w1 ⟨rfl, b1⟩
          refine hK.out _ _ (chain hS b1) (fun hS => ?_)
          clear hK K
          try simp only [Act.put, List.setIfInBounds_toArray, List.set_cons_zero, List.set_cons_succ]
          refine wpAnyH_ready (rs := [6]) (by kernel_rfl) (by simp) ?_
          refine AllReadyH.cons (o := _) rfl (fun K hK => ?_) AllReadyH.nil
          rw [if_pos (by rfl)]
          have TF := (twoC (t1 := 106) (t2 := 112) HW0 b1)
          try simp only [Zb] at TF
          refine wp_store_mid _ _ _ rfl _ 0 (rowOf .i64 64 f) rfl rfl (tf_there1 TF f) (size64 _ f (by kernel_rfl)) (rowOf_one _ _ _) ?_
          refine hK.out _ _ (tf_below1 TF f) (fun hS => ?_)
          clear hK K
          try simp only [Act.put, List.setIfInBounds_toArray, List.set_cons_zero, List.set_cons_succ]
          have FA1 := tf_arr1 TF f
          have FW1 := tf_arr2 TF f
          generalize hWW : World.setCells _ _ _ _ = WW
          rw [hWW] at FA1 FW1 hS
          clear hWW
          refine wpAnyH_ready (rs := [7]) (by kernel_rfl) (by simp) ?_
          refine AllReadyH.cons (o := _) rfl (fun K hK => ?_) AllReadyH.nil
          rw [if_pos (by rfl)]
          refine wp_store_mid _ _ _ rfl _ 0 (rowOf .i64 64 wtF) rfl rfl (tf_there2 wtF FW1) (size64 _ wtF (by kernel_rfl)) (rowOf_one _ _ _) ?_
          refine hK.out _ _ (tf_below2 TF wtF hS) (fun hS2 => ?_)
          clear hK K
          try simp only [Act.put, List.setIfInBounds_toArray, List.set_cons_zero, List.set_cons_succ]
          refine wpAnyH_done (by kernel_rfl) ?_ _
          go_wp2_with fail
          go_meet
          exact tf_end TF f wtF FA1 FW1 hS
        refine AllReadyH.cons (o := _) rfl (fun K hK => ?_) AllReadyH.nil
        go_simp
        refine hK.out _ _ (hS.alloc hS.size _) (fun hS => ?_)
        clear hK K
        try simp only [Act.put, List.setIfInBounds_toArray, List.set_cons_zero, List.set_cons_succ]
        refine wpAnyH_ready (rs := [3, 4]) (by kernel_rfl) (by simp) ?_
        refine AllReadyH.cons (o := _) rfl (fun K hK => ?_) ?_
        · go_simp
          go_at_call 80; refine (weights_any _).mono ?_; rintro e w1 ⟨rfl, b1⟩
          refine hK.out _ _ (chain hS b1) (fun hS => ?_)
          clear hK K
          try simp only [Act.put, List.setIfInBounds_toArray, List.set_cons_zero, List.set_cons_succ]
          refine wpAnyH_ready (rs := [4]) (by kernel_rfl) (by simp) ?_
          refine AllReadyH.cons (o := _) rfl (fun K hK => ?_) AllReadyH.nil
          go_simp
          refine hK.out _ _ (hS.alloc hS.size _) (fun hS => ?_)
          clear hK K
          try simp only [Act.put, List.setIfInBounds_toArray, List.set_cons_zero, List.set_cons_succ]
          refine wpAnyH_ready (rs := [6]) (by kernel_rfl) (by simp) ?_
          refine AllReadyH.cons (o := _) rfl (fun K hK => ?_) AllReadyH.nil
          rw [if_pos (by rfl)]
          have TF := (twoB (t1 := 112) (t2 := 106) HW0 b1).swap
          try simp only [Zb] at TF
          refine wp_store_mid _ _ _ rfl _ 0 (rowOf .i64 64 f) rfl rfl (tf_there1 TF f) (size64 _ f (by kernel_rfl)) (rowOf_one _ _ _) ?_
          refine hK.out _ _ (tf_below1 TF f) (fun hS => ?_)
          clear hK K
          try simp only [Act.put, List.setIfInBounds_toArray, List.set_cons_zero, List.set_cons_succ]
          have FA1 := tf_arr1 TF f
          have FW1 := tf_arr2 TF f
          generalize hWW : World.setCells _ _ _ _ = WW
          rw [hWW] at FA1 FW1 hS
          clear hWW
          refine wpAnyH_ready (rs := [7]) (by kernel_rfl) (by simp) ?_
          refine AllReadyH.cons (o := _) rfl (fun K hK => ?_) AllReadyH.nil
          rw [if_pos (by rfl)]
          refine wp_store_mid _ _ _ rfl _ 0 (rowOf .i64 64 wtF) rfl rfl (tf_there2 wtF FW1) (size64 _ wtF (by kernel_rfl)) (rowOf_one _ _ _) ?_
          refine hK.out _ _ (tf_below2 TF wtF hS) (fun hS2 => ?_)
          clear hK K
          try simp only [Act.put, List.setIfInBounds_toArray, List.set_cons_zero, List.set_cons_succ]
          refine wpAnyH_done (by kernel_rfl) ?_ _
          go_wp2_with fail
          go_meet
          exact tf_end TF f wtF FA1 FW1 hS
        refine AllReadyH.cons (o := _) rfl (fun K hK => ?_) AllReadyH.nil
        go_simp
        refine hK.out _ _ (hS.alloc hS.size _) (fun hS => ?_)
        clear hK K
        try simp only [Act.put, List.setIfInBounds_toArray, List.set_cons_zero, List.set_cons_succ]
        refine wpAnyH_ready (rs := [3]) (by kernel_rfl) (by simp) ?_
        refine AllReadyH.cons (o := _) rfl (fun K hK => ?_) AllReadyH.nil
        go_simp
        go_at_call 80; refine (weights_any _).mono ?_; rintro e w1 ⟨rfl, b1⟩
        refine hK.out _ _ (chain hS b1) (fun hS => ?_)
        clear hK K
        try simp only [Act.put, List.setIfInBounds_toArray, List.set_cons_zero, List.set_cons_succ]
        refine wpAnyH_ready (rs := [6]) (by kernel_rfl) (by simp) ?_
        refine AllReadyH.cons (o := _) rfl (fun K hK => ?_) AllReadyH.nil
        rw [if_pos (by rfl)]
        have TF := (twoC (t1 := 112) (t2 := 106) HW0 b1).swap
        try simp only [Zb] at TF
        refine wp_store_mid _ _ _ rfl _ 0 (rowOf .i64 64 f) rfl rfl (tf_there1 TF f) (size64 _ f (by kernel_rfl)) (rowOf_one _ _ _) ?_
        refine hK.out _ _ (tf_below1 TF f) (fun hS => ?_)
        clear hK K
        try simp only [Act.put, List.setIfInBounds_toArray, List.set_cons_zero, List.set_cons_succ]
        have FA1 := tf_arr1 TF f
        have FW1 := tf_arr2 TF f
        generalize hWW : World.setCells _ _ _ _ = WW
        rw [hWW] at FA1 FW1 hS
        clear hWW
        refine wpAnyH_ready (rs := [7]) (by kernel_rfl) (by simp) ?_
        refine AllReadyH.cons (o := _) rfl (fun K hK => ?_) AllReadyH.nil
        rw [if_pos (by rfl)]
        refine wp_store_mid _ _ _ rfl _ 0 (rowOf .i64 64 wtF) rfl rfl (tf_there2 wtF FW1) (size64 _ wtF (by kernel_rfl)) (rowOf_one _ _ _) ?_
        refine hK.out _ _ (tf_below2 TF wtF hS) (fun hS2 => ?_)
        clear hK K
        try simp only [Act.put, List.setIfInBounds_toArray, List.set_cons_zero, List.set_cons_succ]
        refine wpAnyH_done (by kernel_rfl) ?_ _
        go_wp2_with fail
        go_meet
        exact tf_end TF f wtF FA1 FW1 hS
      case rest =>
        obtain ⟨ga, gw, rfl, rfl, hn, p1, p2, hA, hW, hB⟩ := hcut
        clear HZ LD
        have zB := hB.size
        have HA := Lib.hid hA
        have HW := Lib.hid hW
        have HB := Lib.hid hB
        clear hA hW hB
        go_wp2_with fail
        refine (each_any 8 1 (.inl ⟨rfl, rfl⟩) ga gw f _ hn HA.out HW.out).mono ?_
        rintro e w2 ⟨rfl, hA, hG⟩
        have HW := Lib.hid (HW.out.grown hG (fun e => hn (Option.some.inj e).symm))
        have HB := Lib.hid (HB.out.grown hG zB (fun g hg => by cases hg; exact p1))
        have zB := HB.out.size
        have HA := Lib.hid hA
        clear hA hG
        go_wp2_with fail
        refine (each_any 1 8 (.inr ⟨rfl, rfl⟩) ga gw _ _ hn HA.out HW.out).mono ?_
        rintro e w3 ⟨rfl, hA, hG⟩
        have HB := Lib.hid (HB.out.grown hG zB (fun g hg => by cases hg; exact p1))
        have HA := Lib.hid (hA.congr (two_each f))
        have BD := Lib.hid (inv_bd f HOK.out)
        clear hA hG HW
        go_wp2_with fail
        go_loopw [31] (fun i wx => ∃ k : Nat, k ≤ 64 ∧ i = .int .i64 k ∧ Arr wx .i64 ga 64 (fun i => if i < k then invC f i else colsC (rowsC f) i) ∧ Below wr.heap.size wr wx) (fun i _ => 64 - (intOf i).toNat)
        case atStart => exact ⟨0, by omega, rfl, HA.out.start, HB.out⟩
        case round =>
          obtain ⟨j, hj, rfl, hA, hB⟩ := hrel
          by_cases hj64 : j < 64
          · have cj := hA j hj64
            simp only [Nat.lt_irrefl, if_false] at cj
            obtain ⟨cj1, cj2⟩ := cj
            have bj := BD.out j hj64
            have jb : (0 : Int) ≤ (j : Int) ∧ (j : Int) < 64 := by omega
            have ev : Hid (invC f j = (colsC (rowsC f) j + 8388608) / 16777216) := Lib.hid rfl
            have HA := Lib.hid hA
            have HB := Lib.hid hB
            clear hA hB
            go_wp2
            go_roundw
            case rel => exact ⟨j + 1, by omega, by go_num, HA.out.fill _ rfl, HB.out.setCell (p := ⟨ga, j, none⟩) p1 _⟩
            case measure => simp [intOf]; omega
          · have hA8 : Arr wr .i64 ga 64 (invC f) := by
              obtain rfl : j = 64 := by omega
              exact hA.filled
            have hj' : 64 ≤ j := by omega
            have HA := Lib.hid hA8
            have HB := Lib.hid hB
            clear hA hB hA8 hj hj64
            go_wp2
            go_ret2
            exact ⟨_, by rw [HE'.out]; rfl, by rw [HN'.out]; exact .inr ⟨ga, 64, rfl, p1, HA.out.lt (by omega), Nat.le_refl _, by decide, HA.out⟩, HB.out⟩

theorem Inverse_any (v : Value) (n : Nat) (f : Nat → Int) (w : World) (hs : Sl .i64 w v n f) :
    Calls Tryz.prog 56 #[v] w (Inverts w n f) := by
  obtain ⟨a, c, rfl, h1, h2, h3⟩ := hs
  by_cases h : n = 64
  · subst h
    rcases h3 with ⟨h3, _⟩ | ⟨b, o, rfl, _, h4⟩
    · omega
    · exact inverse_row b o c f w h4
  · exact inverse_long a n c f w h
end Co
end Go.Proofs.YtpibeocngkjolaaGreatDoor
