/- The document's weights and Line. | The document's Inverse. -/
import Derived.Test.YtpibeocngkjolaaGreatDoorMgCosV
import Derived.BigQuiet
import Derived.BigRegion
set_option linter.unusedVariables false
set_option linter.unusedSimpArgs false

namespace Go.Proofs.YtpibeocngkjolaaGreatDoor
open Go.RowKit
namespace Co

theorem tab_new (w : World) (t : TypeId) (j : Nat) (hj : j < 9) : (w.alloc (.cells #[.int .i64 2048, .int .i64 2009, .int .i64 1892, .int .i64 1703, .int .i64 1448, .int .i64 1138, .int .i64 784, .int .i64 400, .int .i64 0] t)).cell? ⟨w.heap.size, j, none⟩ = some (.int .i64 (tab j)) :=
  ((Arr.new w .i64 _ t 9 tab (fun i hi => by
    rcases (by omega : i = 0 ∨ i = 1 ∨ i = 2 ∨ i = 3 ∨ i = 4 ∨ i = 5 ∨ i = 6 ∨ i = 7 ∨ i = 8) with rfl | rfl | rfl | rfl | rfl | rfl | rfl | rfl | rfl <;> rfl)) j hj).1
theorem c_small (k : Nat) (hk : k ≤ 16) (w : World) : Calls Tryz.prog 106 #[.int .i64 k] w fun e w' => e = .returned (.int .i64 (cosS k)) ∧ Below w.heap.size w w' := by
  have hb : Hid (Below w.heap.size w (w.alloc (.cells #[.int .i64 2048, .int .i64 2009, .int .i64 1892, .int .i64 1703, .int .i64 1448, .int .i64 1138, .int .i64 784, .int .i64 400, .int .i64 0] 3))) := Lib.hid ((Below.refl _ _).alloc (Nat.le_refl _) _)
  by_cases h8 : k > 8
  · obtain ⟨j, hj⟩ : ∃ j, j = 16 - k := ⟨_, rfl⟩
    have je : 16 - (k : Int) = (j : Int) := by omega
    have jb : (0 : Int) ≤ (j : Int) ∧ (j : Int) < 9 := by omega
    have tc := tab_new w 3 j (by omega)
    have tb := tab_bd j (by omega)
    have EV : Hid (cosS k = -tab j) := Lib.hid (by unfold cosS; rw [if_pos h8, hj])
    clear hj
    go_enter Tryz.func106, Tryz.ntmps106
    go_wp2
    go_ret
    exact ⟨by rw [EV.out]; rfl, hb.out⟩
  · have tc := tab_new w 3 k (by omega)
    have kb : (0 : Int) ≤ (k : Int) ∧ (k : Int) < 9 := by omega
    have EV : Hid (cosS k = tab k) := Lib.hid (by unfold cosS; rw [if_neg h8])
    go_enter Tryz.func106, Tryz.ntmps106
    go_wp2
    go_ret
    exact ⟨by rw [EV.out]; rfl, hb.out⟩
theorem c_any (k : Nat) (hk : k < 32) (w : World) : Calls Tryz.prog 106 #[.int .i64 k] w fun e w' => e = .returned (.int .i64 (cosT k)) ∧ Below w.heap.size w w' := by
  by_cases h16 : k > 16
  · have ev : cosT k = cosS (32 - k) := by unfold cosT; rw [if_pos h16]
    have e1 : (32 - (k : Int)) = ((32 - k : Nat) : Int) := by omega
    have EV := Lib.hid ev
    have E1 := Lib.hid e1
    clear ev e1
    have hb : Hid (Below w.heap.size w (w.alloc (.cells #[.int .i64 2048, .int .i64 2009, .int .i64 1892, .int .i64 1703, .int .i64 1448, .int .i64 1138, .int .i64 784, .int .i64 400, .int .i64 0] 3))) := Lib.hid ((Below.refl _ _).alloc (Nat.le_refl _) _)
    go_enter Tryz.func106, Tryz.ntmps106
    go_wp2_with (go_at_call 106; rw [E1.out]; refine (c_small (32 - k) (by omega) _).mono ?_; rintro e w1 ⟨rfl, hw⟩)
    go_ret
    exact ⟨by rw [EV.out]; rfl, chain hb.out hw⟩
  · have ev : cosT k = cosS k := by unfold cosT; rw [if_neg h16]
    rw [ev]
    exact c_small k (by omega) w
theorem c_at (K : Int) (k : Nat) (hK : K = k) (hk : k < 32) (w : World) : Calls Tryz.prog 106 #[.int .i64 K] w fun e w' => e = .returned (.int .i64 (cosT k)) ∧ Below w.heap.size w w' := by
  subst hK; exact c_any k hk w
theorem rweight_any (u x : Nat) (hu : u < 8) (hx : x < 8) (w : World) : Calls Tryz.prog 84 #[.int .i64 u, .int .i64 x] w fun e w' => e = .returned (.int .i64 (Wt u x)) ∧ Below w.heap.size w w' := by
  have ub : (0 : Int) ≤ (u : Int) ∧ (u : Int) < 8 := by omega
  have xb : (0 : Int) ≤ (x : Int) ∧ (x : Int) < 8 := by omega
  by_cases hu0 : u = 0
  · subst hu0
    go_enter Tryz.func84, Tryz.ntmps84
    go_wp2
    go_ret
    exact ⟨rfl, Below.refl _ _⟩
  · obtain ⟨p, hp⟩ : ∃ p, p = (2 * x + 1) * u := ⟨_, rfl⟩
    have pb : p ≤ 105 := by rw [hp]; exact Nat.mul_le_mul (show 2 * x + 1 ≤ 15 by omega) (show u ≤ 7 by omega)
    have pe : (2 * (x : Int) + 1) * (u : Int) = (p : Int) := by rw [hp]; push_cast; rfl
    have t1 : (p : Int).tmod 32 = (p : Int) % 32 := Int.tmod_eq_emod_of_nonneg (by omega)
    have ev : Hid (cosT (p % 32) = Wt u x) := Lib.hid (by rw [hp, wt_turn u x hu0])
    have kd : ((u : Int) == 0) = false := by simp; omega
    clear hp
    go_enter Tryz.func84, Tryz.ntmps84
    go_wp2_with (go_at_call 106; refine (c_at _ (p % 32) (by omega) (by omega) _).mono ?_; rintro e w1 ⟨rfl, hw⟩)
    go_ret
    exact ⟨by rw [← ev.out]; rfl, hw⟩
theorem rweight_at (U X : Int) (u x : Nat) (hU : U = u) (hX : X = x) (hu : u < 8) (hx : x < 8) (w : World) : Calls Tryz.prog 84 #[.int .i64 U, .int .i64 X] w fun e w' => e = .returned (.int .i64 (Wt u x)) ∧ Below w.heap.size w w' := by
  subst hU hX; exact rweight_any u x hu hx w
theorem ownsRow_below {w w' : World} {B : Nat} {e : TypeId} {v : Value} {n : Nat} {xs : List Value} (h : w.ownsRow B e 1 v n xs) (hb : Below w.heap.size w w') : w'.ownsRow B e 1 v n xs :=
  h.kept (grown_of_below hb none) (by cases v.ownBlock <;> simp)
theorem info_intR : (Tryz.prog.info? 3).map (fun i => (i.zero, i.size, i.bytes)) = some (some (.int .i64 0), 1, 8) := by kernel_rfl
theorem okL_bd {f : Nat → Int} {k : Nat} (h : okL f k = true) (u : Nat) (hu : u < k) : -1099511627776 ≤ f u ∧ f u ≤ 1099511627776 := inR_yes (okR_at h u hu)
theorem lineC_sum {f : Nat → Int} (h : okL f 8 = true) (x : Nat) (hx : x < 8) : sumN 8 (fun u => Wt u x * f u) = lineC f x := (accW_sum f 1099511627776 (by omega) (fun u hu => okL_bd h u hu) x hx 8 (Nat.le_refl 8)).symm
end Co
end Go.Proofs.YtpibeocngkjolaaGreatDoor

namespace Go.Proofs.YtpibeocngkjolaaGreatDoor
open Go.RowKit
namespace Co

/-- a part of the sum that is a sample, ahead of its rounding. -/
def refS (f : Nat → Int) (k n : Nat) : Int := sumN n fun i => Wt (i % 8) (k % 8) * Wt (i / 8) (k / 8) * f i
theorem sumN_mul (n : Nat) (g : Nat → Int) (c : Int) : c * sumN n g = sumN n fun i => c * g i := by
  induction n with
  | zero => simp [sumN]
  | succ n ih => simp only [sumN]; rw [Int.mul_add, ih]
theorem sumN_add (n m : Nat) (g : Nat → Int) : sumN (n + m) g = sumN n g + sumN m fun i => g (n + i) := by
  induction m with
  | zero => simp [sumN]
  | succ m ih =>
    show sumN (n + m) g + g (n + m) = _
    rw [ih]
    simp only [sumN]
    omega
theorem sumN_rows (n : Nat) (g : Nat → Int) : sumN (8 * n) g = sumN n fun a => sumN 8 fun b => g (8 * a + b) := by
  induction n with
  | zero => rfl
  | succ n ih =>
    rw [show 8 * (n + 1) = 8 * n + 8 by omega, sumN_add, ih]
    rfl
/-- it is rows by weights, and then columns. -/
theorem refS_all (f : Nat → Int) (h : okV f 64 = true) (k : Nat) (hk : k < 64) : refS f k 64 = colsC (rowsC f) k := by
  have hf : ∀ i, i < 64 → -2048 ≤ f i ∧ f i ≤ 2048 := fun i hi => by have := inR_yes (okR_at h i hi); omega
  have hr := rowsC_bd f 2048 (by omega) hf
  unfold colsC
  rw [accW_sum (fun u => rowsC f (8 * u + k % 8)) (16384 * 2048) (by omega) (fun u hu => hr _ (by omega)) (k / 8) (by omega) 8 (Nat.le_refl 8)]
  unfold refS
  rw [show 64 = 8 * 8 from rfl, sumN_rows]
  refine sumN_congr fun a ha => ?_
  have e : rowsC f (8 * a + k % 8) = sumN 8 fun u => Wt u (k % 8) * f (8 * a + u) := by
    unfold rowsC
    rw [show (8 * a + k % 8) / 8 = a by omega, show (8 * a + k % 8) % 8 = k % 8 by omega]
    exact accW_sum _ 2048 (by omega) (fun u hu => hf _ (by omega)) _ (by omega) 8 (Nat.le_refl 8)
  rw [e, sumN_mul]
  refine sumN_congr fun u hu => ?_
  rw [show (8 * a + u) % 8 = u by omega, show (8 * a + u) / 8 = a by omega, Int.mul_comm (Wt u (k % 8)) (Wt a (k / 8)), Int.mul_assoc]
theorem refS_zero {f : Nat → Int} {i : Nat} (h : f i = 0) (k : Nat) : refS f k (i + 1) = refS f k i := by
  unfold refS; simp only [sumN]; rw [h]; omega
theorem refS_succ (f : Nat → Int) (i k : Nat) : refS f k (i + 1) = refS f k i + Wt (i % 8) (k % 8) * Wt (i / 8) (k / 8) * f i := rfl
theorem term_bd (f : Nat → Int) (i k : Nat) (hi : i < 64) (hk : k < 64) (h : -2048 ≤ f i ∧ f i ≤ 2048) : (-4194304 ≤ Wt (i % 8) (k % 8) * Wt (i / 8) (k / 8) ∧ Wt (i % 8) (k % 8) * Wt (i / 8) (k / 8) ≤ 4194304) ∧ -8589934592 ≤ Wt (i % 8) (k % 8) * Wt (i / 8) (k / 8) * f i ∧ Wt (i % 8) (k % 8) * Wt (i / 8) (k / 8) * f i ≤ 8589934592 := by
  have h1 := mul_bd _ _ _ _ (Wt_bd (i % 8) (k % 8) (by omega) (by omega)) (Wt_bd (i / 8) (k / 8) (by omega) (by omega))
  have h2 := mul_bd _ _ (2048 * 2048) _ h1 h
  omega
theorem refS_bd (f : Nat → Int) (k n : Nat) (hk : k < 64) (hn : n ≤ 64) (h : ∀ i, i < 64 → -2048 ≤ f i ∧ f i ≤ 2048) : -1000000000000 ≤ refS f k n ∧ refS f k n ≤ 1000000000000 := by
  have := sumN_bd n (fun i => Wt (i % 8) (k % 8) * Wt (i / 8) (k / 8) * f i) 8589934592 fun i hi => (term_bd f i k (by omega) hk (h i (by omega))).2
  unfold refS
  omega

theorem make64c (w : World) : (Instr.makeSlice 38 (.int .i64 64) (.int .i64 64)).run Tryz.prog w = .ok (.slice (some ⟨w.heap.size, 0, none⟩) 64 64) (w.alloc (.cells (rowOf .i64 64 (fun _ => 0)) 3)) := by kernel_rfl
theorem rinverse_long (a : Option Addr) (n c : Nat) (f : Nat → Int) (w : World) (h : n ≠ 64) :
    Calls Tryz.prog 59 #[.slice a n c] w (Inverts w n f) := by
  have e1 : vE n f = 2 := by unfold vE; rw [if_neg h]
  have e2 : vN n f = 0 := by unfold vN; rw [if_neg h]
  have k : ((n : Int) == 64) = false := by simp; omega
  have E1 := Lib.hid e1
  have E2 := Lib.hid e2
  clear e1 e2
  go_enter Tryz.func59, Tryz.ntmps59
  go_wp2
  go_ret2
  exact ⟨.slice none 0 0, by rw [E1.out]; rfl, by rw [E2.out]; exact .inl ⟨rfl, rfl⟩, Below.refl _ _⟩

set_option maxRecDepth 100000 in
set_option maxHeartbeats 4000000 in
theorem rinverse_row (b o c : Nat) (f : Nat → Int) (w : World) (h : Ints w .i64 b o 64 f) :
    Calls Tryz.prog 59 #[.slice (some ⟨b, o, none⟩) 64 c] w (Inverts w 64 f) := by
  have hblt := h.lt (by omega)
  have H := Lib.hid h
  have HE : Hid (vE 64 f = if okV f 64 then 0 else 3) := by show _ = _; unfold vE; rw [if_pos rfl]
  have HN : Hid (vN 64 f = if okV f 64 then 64 else 0) := by show _ = _; unfold vN; rw [if_pos rfl]
  clear h
  go_enter Tryz.func59, Tryz.ntmps59
  go_wp2
  go_loopw [4] (fun i wr => ∃ k : Nat, k ≤ 64 ∧ i = .int .i64 k ∧ okV f k = true ∧ wr = w) (fun i _ => 64 - (intOf i).toNat)
  case atStart => exact ⟨0, by omega, rfl, rfl, rfl⟩
  case round =>
    obtain ⟨k, hk, rfl, hok, rfl⟩ := hrel
    by_cases hk8 : k < 64
    · have ck := H.out.at k hk8
      have kb : (0 : Int) ≤ (k : Int) ∧ (k : Int) < 64 := by omega
      have OK := Lib.hid hok
      clear hok
      cases hkk : inR (-2048) 2047 (f k)
      · have EA : Hid (okV f 64 = false) := Lib.hid (okR_not hk8 hkk)
        rcases inR_no hkk with g | g
        · have _d : decide (f k < -2048) = true := by simp; omega
          clear hkk
          go_wp2
          go_ret2
          exact ⟨.slice none 0 0, by rw [HE.out, EA.out]; rfl, by rw [HN.out, EA.out]; exact .inl ⟨rfl, rfl⟩, Below.refl _ _⟩
        · have _d : decide (f k < -2048) = false := by simp; omega
          have _d2 : decide (2047 < f k) = true := by simp; omega
          clear hkk
          go_wp2
          go_ret2
          exact ⟨.slice none 0 0, by rw [HE.out, EA.out]; rfl, by rw [HN.out, EA.out]; exact .inl ⟨rfl, rfl⟩, Below.refl _ _⟩
      · have g := inR_yes hkk
        have _d : decide (f k < -2048) = false := by simp; omega
        have _d2 : decide (2047 < f k) = false := by simp; omega
        have KK := Lib.hid hkk
        clear hkk
        go_wp2
        go_roundw
        case rel => exact ⟨k + 1, by omega, by go_num, by have := OK.out; unfold okV at *; rw [okR_succ, this, KK.out]; rfl, by first | rfl | trivial⟩
        case measure => simp [intOf]; omega
    · have hok' : okV f 64 = true := by
        obtain rfl : k = 64 := by omega
        exact hok
      have HE' : Hid (vE 64 f = 0) := Lib.hid (by rw [HE.out, hok']; rfl)
      have HN' : Hid (vN 64 f = 64) := Lib.hid (by rw [HN.out, hok']; rfl)
      have HOK := Lib.hid hok'
      have FB : Hid (∀ i, i < 64 → -2048 ≤ f i ∧ f i ≤ 2048) := Lib.hid fun i hi => by have := inR_yes (okR_at hok' i hi); omega
      have hk' : 64 ≤ k := by omega
      obtain ⟨ws, rfl⟩ : ∃ ws : World, ws = wr := ⟨_, rfl⟩
      have M0 := Lib.hid (Arr.new ws .i64 (rowOf .i64 64 (fun _ => 0)) 106 64 (fun _ => 0) (fun i hi => rowOf_get _ _ _ _ hi))
      clear hok hok' hk hk8 HE HN
      go_wp2
      go_loopw [6] (fun i wx => ∃ j : Nat, j ≤ 64 ∧ i = .int .i64 j ∧ Arr wx .i64 ws.heap.size 64 (fun i => if i < j then wtF i else 0) ∧ Below ws.heap.size ws wx) (fun i _ => 64 - (intOf i).toNat)
      case atStart => exact ⟨0, by omega, rfl, M0.out.start, (Below.refl _ _).alloc (Nat.le_refl _) _⟩
      case round =>
        obtain ⟨j, hj, rfl, hA, hB⟩ := hrel
        by_cases hj64 : j < 64
        · have jb : (0 : Int) ≤ (j : Int) ∧ (j : Int) < 64 := by omega
          have hlo := hA.lt (by omega)
          have HA := Lib.hid hA
          have HB := Lib.hid hB
          have t1 : (j : Int).tmod 8 = (j : Int) % 8 := Int.tmod_eq_emod_of_nonneg (by omega)
          have t2 : (j : Int).tdiv 8 = (j : Int) / 8 := Int.tdiv_eq_ediv_of_nonneg (by omega)
          clear hA hB
          go_wp2_with (go_at_call 84; refine (rweight_at _ _ (j / 8) (j % 8) (by omega) (by omega) (by omega) (by omega) _).mono ?_; rintro e w1 ⟨rfl, hw⟩; have AW := HA.out.below hw hlo; have cy := AW j hj64; have AWH := Lib.hid AW; have HBW := Lib.hid (chain HB.out hw); clear AW hw)
          go_roundw
          case rel => exact ⟨j + 1, by omega, by go_num, AWH.out.fill _ rfl, HBW.out.setCell (p := ⟨ws.heap.size, j, none⟩) (Nat.le_refl _) _⟩
          case measure => simp [intOf]; omega
        · have hA' : Arr wr .i64 ws.heap.size 64 wtF := by
            obtain rfl : j = 64 := by omega
            exact hA.filled
          have hj' : 64 ≤ j := by omega
          have hmk := make64c
          obtain ⟨w2, rfl⟩ : ∃ w2 : World, w2 = wr := ⟨_, rfl⟩
          have zz := hB.size
          have hlw := hA'.lt (by omega)
          have MO := Lib.hid (Arr.new w2 .i64 (rowOf .i64 64 (fun _ => 0)) 3 64 (fun _ => 0) (fun i hi => rowOf_get _ _ _ _ hi))
          have HA := Lib.hid (hA'.alloc (.cells (rowOf .i64 64 (fun _ => 0)) 3))
          have HB := Lib.hid (hB.alloc zz (.cells (rowOf .i64 64 (fun _ => 0)) 3))
          have MS := Lib.hid (show ws.heap.size ≤ w2.heap.size from zz)
          have hne : w2.heap.size ≠ ws.heap.size := by omega
          clear hA hA' hB hj hj64
          go_wp2
          clear hmk
          go_loopw [8] (fun i wx => ∃ j : Nat, j ≤ 64 ∧ i = .int .i64 j ∧ Arr wx .i64 w2.heap.size 64 (fun k => refS f k j) ∧ Arr wx .i64 ws.heap.size 64 wtF ∧ Below ws.heap.size ws wx) (fun i _ => 64 - (intOf i).toNat)
          case atStart => exact ⟨0, by omega, rfl, MO.out, HA.out, HB.out⟩
          case round =>
            obtain ⟨i, hii, rfl, hO, hA, hB⟩ := hrel
            by_cases hi64 : i < 64
            · have ib : (0 : Int) ≤ (i : Int) ∧ (i : Int) < 64 := by omega
              have ci := (H.out.below hB hblt).at i hi64
              by_cases h0 : f i = 0
              · have kd : (f i == 0) = true := by simp [h0]
                have HO : Hid (Arr wr .i64 w2.heap.size 64 (fun k => refS f k (i + 1))) := Lib.hid (hO.congr fun k _ => (refS_zero h0 k).symm)
                have HA := Lib.hid hA
                have HB := Lib.hid hB
                clear hO hA hB
                go_wp2
                go_roundw
                case rel => exact ⟨i + 1, by omega, by go_num, HO.out, HA.out, HB.out⟩
                case measure => simp [intOf]; omega
              · have kd : (f i == 0) = false := by simp [h0]
                have HO := Lib.hid hO
                have HA := Lib.hid hA
                have HB := Lib.hid hB
                clear hO hA hB
                go_wp2
                go_loopw [9] (fun q wx => ∃ k : Nat, k ≤ 64 ∧ q = .int .i64 k ∧ Arr wx .i64 w2.heap.size 64 (fun k' => if k' < k then refS f k' (i + 1) else refS f k' i) ∧ Arr wx .i64 ws.heap.size 64 wtF ∧ Below ws.heap.size ws wx) (fun q _ => 64 - (intOf q).toNat)
                case atStart => exact ⟨0, by omega, rfl, HO.out.start, HA.out, HB.out⟩
                case round =>
                  obtain ⟨k, hk, rfl, hO, hA, hB⟩ := hrel
                  by_cases hk64 : k < 64
                  · have kb : (0 : Int) ≤ (k : Int) ∧ (k : Int) < 64 := by omega
                    have ci := (H.out.below hB hblt).at i hi64
                    have ck := hO k hk64
                    simp only [Nat.lt_irrefl, if_false] at ck
                    obtain ⟨ck1, ck2⟩ := ck
                    have cA := (hA (i % 8 * 8 + k % 8) (by omega)).1
                    have cB := (hA (i / 8 * 8 + k / 8) (by omega)).1
                    rw [wtF_at _ _ (by omega)] at cA cB
                    have tb := term_bd f i k hi64 hk64 (FB.out i hi64)
                    have sb := refS_bd f k i hk64 (by omega) FB.out
                    have ev : Hid (refS f k (i + 1) = refS f k i + Wt (i % 8) (k % 8) * Wt (i / 8) (k / 8) * f i) := Lib.hid (refS_succ f i k)
                    obtain ⟨p, hp⟩ : ∃ p, p = Wt (i % 8) (k % 8) * Wt (i / 8) (k / 8) := ⟨_, rfl⟩
                    obtain ⟨t, ht⟩ : ∃ t, t = p * f i := ⟨_, rfl⟩
                    rw [← hp, ← ht] at tb ev
                    have pe : Wt (i % 8) (k % 8) * Wt (i / 8) (k / 8) = p := hp.symm
                    have te : p * f i = t := ht.symm
                    have x1 : IntKind.i64.wrap p = p := IntWalk.i64_in _ (by omega)
                    have x2 : IntKind.i64.wrap t = t := IntWalk.i64_in _ (by omega)
                    have x3 : IntKind.i64.wrap (refS f k i + t) = refS f k i + t := IntWalk.i64_in _ (by omega)
                    have t1 : (i : Int).tmod 8 = (i : Int) % 8 := Int.tmod_eq_emod_of_nonneg (by omega)
                    have t2 : (i : Int).tdiv 8 = (i : Int) / 8 := Int.tdiv_eq_ediv_of_nonneg (by omega)
                    have t3 : (k : Int).tmod 8 = (k : Int) % 8 := Int.tmod_eq_emod_of_nonneg (by omega)
                    have t4 : (k : Int).tdiv 8 = (k : Int) / 8 := Int.tdiv_eq_ediv_of_nonneg (by omega)
                    have r1 : 0 ≤ (i : Int) % 8 ∧ (i : Int) % 8 ≤ 7 ∧ 0 ≤ (k : Int) % 8 ∧ (k : Int) % 8 ≤ 7 := by omega
                    have r2 : 0 ≤ (i : Int) / 8 ∧ (i : Int) / 8 ≤ 7 ∧ 0 ≤ (k : Int) / 8 ∧ (k : Int) / 8 ≤ 7 := by omega
                    have y1 : ((i : Int) % 8 * 8 + (k : Int) % 8).toNat = i % 8 * 8 + k % 8 := by omega
                    have y2 : ((i : Int) / 8 * 8 + (k : Int) / 8).toNat = i / 8 * 8 + k / 8 := by omega
                    have q1 : (0 : Int) ≤ (i : Int) % 8 * 8 + (k : Int) % 8 ∧ (i : Int) % 8 * 8 + (k : Int) % 8 < 64 := by omega
                    have q2 : (0 : Int) ≤ (i : Int) / 8 * 8 + (k : Int) / 8 ∧ (i : Int) / 8 * 8 + (k : Int) / 8 < 64 := by omega
                    have z1 : IntKind.i64.wrap ((i : Int) % 8 * 8) = (i : Int) % 8 * 8 := IntWalk.i64_in _ (by omega)
                    have z2 : IntKind.i64.wrap ((i : Int) / 8 * 8) = (i : Int) / 8 * 8 := IntWalk.i64_in _ (by omega)
                    have z3 : IntKind.i64.wrap ((i : Int) % 8 * 8 + (k : Int) % 8) = (i : Int) % 8 * 8 + (k : Int) % 8 := IntWalk.i64_in _ (by omega)
                    have z4 : IntKind.i64.wrap ((i : Int) / 8 * 8 + (k : Int) / 8) = (i : Int) / 8 * 8 + (k : Int) / 8 := IntWalk.i64_in _ (by omega)
                    have HO := Lib.hid hO
                    have HA := Lib.hid hA
                    have HB := Lib.hid hB
                    clear hO hA hB hp ht tb sb kd
                    go_wp2_with fail
                    go_region
                    go_wp2
                    go_roundw
                    case rel => exact ⟨k + 1, by omega, by go_num, (HO.out.fill _ ev.out.symm).drew, (HA.out.far (a := ⟨w2.heap.size, k, none⟩) hne _).drew, (HB.out.setCell (p := ⟨w2.heap.size, k, none⟩) MS.out _).drew⟩
                    case measure => simp [intOf]; omega
                  · have hO' : Arr wr .i64 w2.heap.size 64 (fun k => refS f k (i + 1)) := by
                      obtain rfl : k = 64 := by omega
                      exact hO.filled
                    have hk' : 64 ≤ k := by omega
                    have HO := Lib.hid hO'
                    have HA := Lib.hid hA
                    have HB := Lib.hid hB
                    clear hO hA hB hO' hk hk64
                    go_wp2
                    go_roundw
                    case rel => exact ⟨i + 1, by omega, by go_num, HO.out, HA.out, HB.out⟩
                    case measure => simp [intOf]; omega
            · have hO' : Arr wr .i64 w2.heap.size 64 (colsC (rowsC f)) := by
                obtain rfl : i = 64 := by omega
                exact hO.congr fun k hk => refS_all f HOK.out k hk
              have hi' : 64 ≤ i := by omega
              have HO := Lib.hid hO'
              have HB := Lib.hid hB
              have BD := Lib.hid (inv_bd f HOK.out)
              clear hO hA hB hO' hii hi64
              go_wp2
              go_loopw [10] (fun q wx => ∃ k : Nat, k ≤ 64 ∧ q = .int .i64 k ∧ Arr wx .i64 w2.heap.size 64 (fun i => if i < k then invC f i else colsC (rowsC f) i) ∧ Below ws.heap.size ws wx) (fun q _ => 64 - (intOf q).toNat)
              case atStart => exact ⟨0, by omega, rfl, HO.out.start, HB.out⟩
              case round =>
                obtain ⟨k, hk, rfl, hO, hB⟩ := hrel
                by_cases hk64 : k < 64
                · have ck := hO k hk64
                  simp only [Nat.lt_irrefl, if_false] at ck
                  obtain ⟨ck1, ck2⟩ := ck
                  have bk := BD.out k hk64
                  have kb : (0 : Int) ≤ (k : Int) ∧ (k : Int) < 64 := by omega
                  have HO := Lib.hid hO
                  have HB := Lib.hid hB
                  clear hO hB
                  go_wp2
                  go_roundw
                  case rel => exact ⟨k + 1, by omega, by go_num, HO.out.fill _ rfl, HB.out.setCell (p := ⟨w2.heap.size, k, none⟩) MS.out _⟩
                  case measure => simp [intOf]; omega
                · have hO' : Arr wr .i64 w2.heap.size 64 (invC f) := by
                    obtain rfl : k = 64 := by omega
                    exact hO.filled
                  have hk' : 64 ≤ k := by omega
                  have HO := Lib.hid hO'
                  have HB := Lib.hid hB
                  clear hO hB hO' hk hk64
                  go_wp2
                  go_ret2
                  exact ⟨_, by rw [HE'.out]; rfl, by rw [HN'.out]; exact .inr ⟨w2.heap.size, 64, rfl, MS.out, HO.out.lt (by omega), Nat.le_refl _, by decide, HO.out⟩, HB.out⟩
theorem rInverse_any (v : Value) (n : Nat) (f : Nat → Int) (w : World) (hs : Sl .i64 w v n f) :
    Calls Tryz.prog 59 #[v] w (Inverts w n f) := by
  obtain ⟨a, c, rfl, h1, h2, h3⟩ := hs
  by_cases h : n = 64
  · subst h
    rcases h3 with ⟨h3, _⟩ | ⟨b, o, rfl, _, h4⟩
    · omega
    · exact rinverse_row b o c f w h4
  · exact rinverse_long a n c f w h
end Co
end Go.Proofs.YtpibeocngkjolaaGreatDoor
