/- What the transform comes to: turned, mirrored, summed; rows of weights. -/
import Derived.Test.YtkeefdlnolcapaaCosQ
namespace Go.Proofs.Ytkeefdlnolcapaa
namespace Co

/-- the double sum. -/
def DS (f : Nat → Int) (x y : Nat) : Int := sumN 8 fun a => Wt a y * sumN 8 fun b => Wt b x * f (8 * a + b)
theorem sumN_zero (n : Nat) : sumN n (fun _ => 0) = 0 := by
  induction n with
  | zero => rfl
  | succ n ih => simp only [sumN, ih]; rfl
theorem sumN_plus (n : Nat) (g h : Nat → Int) : sumN n (fun i => g i + h i) = sumN n g + sumN n h := by
  induction n with
  | zero => rfl
  | succ n ih => simp only [sumN, ih]; omega
theorem sumN_swap (n m : Nat) (g : Nat → Nat → Int) : sumN n (fun a => sumN m (fun b => g a b)) = sumN m (fun b => sumN n (fun a => g a b)) := by
  induction n with
  | zero => exact (sumN_zero m).symm
  | succ n ih =>
    show sumN n (fun a => sumN m (fun b => g a b)) + sumN m (fun b => g n b) = sumN m (fun b => sumN n (fun a => g a b) + g n b)
    rw [ih, sumN_plus]
theorem DS_swap (f : Nat → Int) (x y : Nat) : DS f x y = sumN 8 fun b => Wt b x * sumN 8 fun a => Wt a y * f (8 * a + b) := by
  unfold DS
  have e1 : (fun a => Wt a y * sumN 8 fun b => Wt b x * f (8 * a + b)) = fun a => sumN 8 fun b => Wt a y * (Wt b x * f (8 * a + b)) := funext fun a => sumN_mul _ _ _
  have e2 : (fun b => Wt b x * sumN 8 fun a => Wt a y * f (8 * a + b)) = fun b => sumN 8 fun a => Wt b x * (Wt a y * f (8 * a + b)) := funext fun a => sumN_mul _ _ _
  rw [e1, e2, sumN_swap]
  refine sumN_congr fun b _ => sumN_congr fun a _ => ?_
  rw [← Int.mul_assoc, ← Int.mul_assoc, Int.mul_comm (Wt a y)]
/-- numbers within bounds, 64 of them. -/
def Bd (f : Nat → Int) : Prop := ∀ i, i < 64 → -2048 ≤ f i ∧ f i ≤ 2048
theorem cr_DS (f : Nat → Int) (hf : Bd f) (k : Nat) (hk : k < 64) : colsC (rowsC f) k = DS f (k % 8) (k / 8) := by
  have hr := rowsC_bd f 2048 (by omega) hf
  unfold colsC
  rw [accW_sum (fun u => rowsC f (8 * u + k % 8)) (16384 * 2048) (by omega) (fun u hu => hr _ (by omega)) (k / 8) (by omega) 8 (Nat.le_refl 8)]
  refine sumN_congr fun a ha => ?_
  have e : rowsC f (8 * a + k % 8) = sumN 8 fun u => Wt u (k % 8) * f (8 * a + u) := by
    unfold rowsC
    rw [show (8 * a + k % 8) / 8 = a by omega, show (8 * a + k % 8) % 8 = k % 8 by omega]
    exact accW_sum _ 2048 (by omega) (fun u hu => hf _ (by omega)) _ (by omega) 8 (Nat.le_refl 8)
  rw [e]
theorem rc_DS (f : Nat → Int) (hf : Bd f) (k : Nat) (hk : k < 64) : rowsC (colsC f) k = DS f (k % 8) (k / 8) := by
  have hr := colsC_bd f 2048 (by omega) hf
  rw [DS_swap]
  unfold rowsC
  rw [accW_sum (fun u => colsC f (8 * (k / 8) + u)) (16384 * 2048) (by omega) (fun u hu => hr _ (by omega)) (k % 8) (by omega) 8 (Nat.le_refl 8)]
  refine sumN_congr fun b hb => ?_
  have e : colsC f (8 * (k / 8) + b) = sumN 8 fun u => Wt u (k / 8) * f (8 * u + b) := by
    unfold colsC
    rw [show (8 * (k / 8) + b) / 8 = k / 8 by omega, show (8 * (k / 8) + b) % 8 = b by omega]
    exact accW_sum _ 2048 (by omega) (fun u hu => hf _ (by omega)) _ (by omega) 8 (Nat.le_refl 8)
  rw [e]
theorem rows_cols (f : Nat → Int) (hf : Bd f) (k : Nat) (hk : k < 64) : rowsC (colsC f) k = colsC (rowsC f) k := by rw [rc_DS f hf k hk, cr_DS f hf k hk]
theorem inv_DS (f : Nat → Int) (hf : Bd f) (k : Nat) (hk : k < 64) : invC f k = (DS f (k % 8) (k / 8) + 8388608) / 16777216 := by unfold invC; rw [cr_DS f hf k hk]
theorem inv_turned (f : Nat → Int) (hf : Bd f) (i : Nat) (hi : i < 64) : invC (fun i => f (i % 8 * 8 + i / 8)) i = invC f (i % 8 * 8 + i / 8) := by
  rw [inv_DS _ (fun j hj => hf _ (by omega)) i hi, inv_DS f hf _ (by omega)]
  have e : DS (fun i => f (i % 8 * 8 + i / 8)) (i % 8) (i / 8) = DS f ((i % 8 * 8 + i / 8) % 8) ((i % 8 * 8 + i / 8) / 8) := by
    rw [show (i % 8 * 8 + i / 8) % 8 = i / 8 by omega, show (i % 8 * 8 + i / 8) / 8 = i % 8 by omega, DS_swap f]
    unfold DS
    refine sumN_congr fun a ha => ?_
    congr 1
    refine sumN_congr fun b hb => ?_
    show Wt b (i % 8) * f ((8 * a + b) % 8 * 8 + (8 * a + b) / 8) = _
    rw [show (8 * a + b) % 8 = b by omega, show (8 * a + b) / 8 = a by omega, Nat.mul_comm b 8]
  rw [e]
/-- 1 or -1, by turns. -/
def alt (i : Nat) : Int := 1 - 2 * ((i % 2 : Nat) : Int)
theorem Wt_alt0 : ∀ b, b < 8 → ∀ x, x < 8 → Wt b x * alt b = Wt b (7 - x) := by decide
theorem inv_across (f : Nat → Int) (hf : Bd f) (i : Nat) (hi : i < 64) : invC (fun i => f i * alt i) i = invC f (i / 8 * 8 + 7 - i % 8) := by
  have hg : Bd (fun i => f i * alt i) := fun j hj => by
    have := hf j hj
    have ha : alt j = 1 ∨ alt j = -1 := by unfold alt; omega
    rcases ha with e | e
    · show -2048 ≤ f j * alt j ∧ f j * alt j ≤ 2048; rw [e]; omega
    · show -2048 ≤ f j * alt j ∧ f j * alt j ≤ 2048; rw [e]; omega
  rw [inv_DS _ hg i hi, inv_DS f hf _ (by omega)]
  have e : DS (fun i => f i * alt i) (i % 8) (i / 8) = DS f ((i / 8 * 8 + 7 - i % 8) % 8) ((i / 8 * 8 + 7 - i % 8) / 8) := by
    rw [show (i / 8 * 8 + 7 - i % 8) % 8 = 7 - i % 8 by omega, show (i / 8 * 8 + 7 - i % 8) / 8 = i / 8 by omega]
    unfold DS
    refine sumN_congr fun a ha => ?_
    congr 1
    refine sumN_congr fun b hb => ?_
    have e1 : alt (8 * a + b) = alt b := by unfold alt; rw [show (8 * a + b) % 2 = b % 2 by omega]
    show Wt b (i % 8) * (f (8 * a + b) * alt (8 * a + b)) = _
    rw [e1, ← Wt_alt0 b hb (i % 8) (by omega), Int.mul_assoc, Int.mul_comm (alt b)]
  rw [e]
theorem inv_down (f : Nat → Int) (hf : Bd f) (i : Nat) (hi : i < 64) : invC (fun i => f i * alt (i / 8)) i = invC f ((7 - i / 8) * 8 + i % 8) := by
  have hg : Bd (fun i => f i * alt (i / 8)) := fun j hj => by
    have := hf j hj
    have ha : alt (j / 8) = 1 ∨ alt (j / 8) = -1 := by unfold alt; omega
    rcases ha with e | e
    · show -2048 ≤ f j * alt (j / 8) ∧ f j * alt (j / 8) ≤ 2048; rw [e]; omega
    · show -2048 ≤ f j * alt (j / 8) ∧ f j * alt (j / 8) ≤ 2048; rw [e]; omega
  rw [inv_DS _ hg i hi, inv_DS f hf _ (by omega)]
  have e : DS (fun i => f i * alt (i / 8)) (i % 8) (i / 8) = DS f (((7 - i / 8) * 8 + i % 8) % 8) (((7 - i / 8) * 8 + i % 8) / 8) := by
    rw [show ((7 - i / 8) * 8 + i % 8) % 8 = i % 8 by omega, show ((7 - i / 8) * 8 + i % 8) / 8 = 7 - i / 8 by omega]
    unfold DS
    refine sumN_congr fun a ha => ?_
    have e2 : (sumN 8 fun b => Wt b (i % 8) * (f (8 * a + b) * alt ((8 * a + b) / 8))) = alt a * sumN 8 fun b => Wt b (i % 8) * f (8 * a + b) := by
      rw [sumN_mul]
      refine sumN_congr fun b hb => ?_
      rw [show (8 * a + b) / 8 = a by omega, ← Int.mul_assoc, Int.mul_comm]
    rw [e2, ← Wt_alt0 a ha (i / 8) (by omega), Int.mul_assoc]
  rw [e]
theorem inv_sum (f g : Nat → Int) (hf : Bd f) (hg : Bd g) (hfg : Bd fun i => f i + g i) (i : Nat) (hi : i < 64) : -1 ≤ invC (fun i => f i + g i) i - invC f i - invC g i ∧ invC (fun i => f i + g i) i - invC f i - invC g i ≤ 1 := by
  rw [inv_DS _ hfg i hi, inv_DS f hf i hi, inv_DS g hg i hi]
  have e : DS (fun i => f i + g i) (i % 8) (i / 8) = DS f (i % 8) (i / 8) + DS g (i % 8) (i / 8) := by
    unfold DS
    rw [← sumN_plus]
    refine sumN_congr fun a _ => ?_
    rw [← Int.mul_add, ← sumN_plus]
    congr 1
    exact sumN_congr fun b _ => Int.mul_add _ _ _
  rw [e]
  omega
def rowS (u v n : Nat) : Int := sumN n fun x => Wt u x * Wt v x
theorem rows_near0 : ∀ u, u < 8 → ∀ v, v < 8 → -20000 < (if u = v then rowS u v 8 - 16777216 else rowS u v 8) ∧ (if u = v then rowS u v 8 - 16777216 else rowS u v 8) < 20000 := by decide +kernel
theorem rowS_bd (u v n : Nat) (hu : u < 8) (hv : v < 8) (hn : n ≤ 8) : -33554432 ≤ rowS u v n ∧ rowS u v n ≤ 33554432 := by
  have := sumN_bd n (fun x => Wt u x * Wt v x) 4194304 fun x hx => by
    have := mul_bd _ _ _ _ (Wt_bd u x hu (by omega)) (Wt_bd v x hv (by omega))
    omega
  unfold rowS; omega
end Co
end Go.Proofs.Ytkeefdlnolcapaa
