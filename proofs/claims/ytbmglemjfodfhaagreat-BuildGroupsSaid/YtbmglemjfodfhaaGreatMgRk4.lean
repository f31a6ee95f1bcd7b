/- The document's weights and Line. | The document's Inverse. | The document's Spread. | The document's answer: kinds, patterns, blocks. | The document's answer: blocks: Check, Levels, Residue. | The document's answer: blocks: Levels, Residue. | The document's answer: macro.Check. -/
import Derived.Test.YtbmglemjfodfhaaGreatMgBk2
import Derived.Test.YtbmglemjfodfhaaGreatMgCosV
import Derived.Test.YtbmglemjfodfhaaGreatMgMc2
import Derived.Test.YtbmglemjfodfhaaGreatMgSpread
import Derived.BigQuiet
import Derived.BigRegion
import Derived.Deep.Cut
import Derived.Deep.RegionHeld3
import Derived.Deep.RegionWith
set_option linter.unusedVariables false
set_option linter.unusedSimpArgs false
namespace Go.Proofs.YtbmglemjfodfhaaGreat
open Go.RowKit
namespace Co
theorem tab_new (w : World) (t : TypeId) (j : Nat) (hj : j < 9) : (w.alloc (.cells #[.int .i64 2048, .int .i64 2009, .int .i64 1892, .int .i64 1703, .int .i64 1448, .int .i64 1138, .int .i64 784, .int .i64 400, .int .i64 0] t)).cell? ⟨w.heap.size, j, none⟩ = some (.int .i64 (tab j)) :=
  ((Arr.new w .i64 _ t 9 tab (fun i hi => by
    rcases (by omega : i = 0 ∨ i = 1 ∨ i = 2 ∨ i = 3 ∨ i = 4 ∨ i = 5 ∨ i = 6 ∨ i = 7 ∨ i = 8) with rfl | rfl | rfl | rfl | rfl | rfl | rfl | rfl | rfl <;> rfl)) j hj).1
theorem c_small (k : Nat) (hk : k ≤ 16) (w : World) : Calls Tryz.prog 170 #[.int .i64 k] w fun e w' => e = .returned (.int .i64 (cosS k)) ∧ Below w.heap.size w w' := by
  have hb : Hid (Below w.heap.size w (w.alloc (.cells #[.int .i64 2048, .int .i64 2009, .int .i64 1892, .int .i64 1703, .int .i64 1448, .int .i64 1138, .int .i64 784, .int .i64 400, .int .i64 0] 3))) := Lib.hid ((Below.refl _ _).alloc (Nat.le_refl _) _)
  by_cases h8 : k > 8
  · obtain ⟨j, hj⟩ : ∃ j, j = 16 - k := ⟨_, rfl⟩
    have je : 16 - (k : Int) = (j : Int) := by omega
    have jb : (0 : Int) ≤ (j : Int) ∧ (j : Int) < 9 := by omega
    have tc := tab_new w 3 j (by omega)
    have tb := tab_bd j (by omega)
    have EV : Hid (cosS k = -tab j) := Lib.hid (by unfold cosS; rw [if_pos h8, hj])
    clear hj
    go_enter Tryz.func170, Tryz.ntmps170
    go_wp2
    go_ret
    exact ⟨by rw [EV.out]; rfl, hb.out⟩
  · have tc := tab_new w 3 k (by omega)
    have kb : (0 : Int) ≤ (k : Int) ∧ (k : Int) < 9 := by omega
    have EV : Hid (cosS k = tab k) := Lib.hid (by unfold cosS; rw [if_neg h8])
    go_enter Tryz.func170, Tryz.ntmps170
    go_wp2
    go_ret
    exact ⟨by rw [EV.out]; rfl, hb.out⟩
theorem c_any (k : Nat) (hk : k < 32) (w : World) : Calls Tryz.prog 170 #[.int .i64 k] w fun e w' => e = .returned (.int .i64 (cosT k)) ∧ Below w.heap.size w w' := by
  by_cases h16 : k > 16
  · have ev : cosT k = cosS (32 - k) := by unfold cosT; rw [if_pos h16]
    have e1 : (32 - (k : Int)) = ((32 - k : Nat) : Int) := by omega
    have EV := Lib.hid ev
    have E1 := Lib.hid e1
    clear ev e1
    have hb : Hid (Below w.heap.size w (w.alloc (.cells #[.int .i64 2048, .int .i64 2009, .int .i64 1892, .int .i64 1703, .int .i64 1448, .int .i64 1138, .int .i64 784, .int .i64 400, .int .i64 0] 3))) := Lib.hid ((Below.refl _ _).alloc (Nat.le_refl _) _)
    go_enter Tryz.func170, Tryz.ntmps170
    go_wp2_with (go_at_call 170; rw [E1.out]; refine (c_small (32 - k) (by omega) _).mono ?_; rintro e w1 ⟨rfl, hw⟩)
    go_ret
    exact ⟨by rw [EV.out]; rfl, chain hb.out hw⟩
  · have ev : cosT k = cosS k := by unfold cosT; rw [if_neg h16]
    rw [ev]
    exact c_small k (by omega) w
theorem c_at (K : Int) (k : Nat) (hK : K = k) (hk : k < 32) (w : World) : Calls Tryz.prog 170 #[.int .i64 K] w fun e w' => e = .returned (.int .i64 (cosT k)) ∧ Below w.heap.size w w' := by
  subst hK; exact c_any k hk w
theorem rweight_any (u x : Nat) (hu : u < 8) (hx : x < 8) (w : World) : Calls Tryz.prog 152 #[.int .i64 u, .int .i64 x] w fun e w' => e = .returned (.int .i64 (Wt u x)) ∧ Below w.heap.size w w' := by
  have ub : (0 : Int) ≤ (u : Int) ∧ (u : Int) < 8 := by omega
  have xb : (0 : Int) ≤ (x : Int) ∧ (x : Int) < 8 := by omega
  by_cases hu0 : u = 0
  · subst hu0
    go_enter Tryz.func152, Tryz.ntmps152
    go_wp2
    go_ret
    exact ⟨rfl, Below.refl _ _⟩
  · obtain ⟨p, hp⟩ : ∃ p, p = (2 * x + 1) * u := ⟨_, rfl⟩
    have pb : p ≤ 105 := by rw [hp]; exact Nat.mul_le_mul (show 2 * x + 1 ≤ 15 by omega) (show u ≤ 7 by omega)
    have pe : (2 * (x : Int) + 1) * (u : Int) = (p : Int) := by rw [hp]; push_cast; rfl
    have t1 : (p : Int).tmod 32 = (p : Int) % 32 := Int.tmod_eq_emod_of_nonneg (by omega)
    have ev : Hid (cosT (p % 32) = Wt u x) := Lib.hid (by rw [hp, wt_turn u x hu0])
    have kd : ((u : Int) == 0) = false := by simp; omega
    clear hp
    go_enter Tryz.func152, Tryz.ntmps152
    go_wp2_with (go_at_call 170; refine (c_at _ (p % 32) (by omega) (by omega) _).mono ?_; rintro e w1 ⟨rfl, hw⟩)
    go_ret
    exact ⟨by rw [← ev.out]; rfl, hw⟩
theorem rweight_at (U X : Int) (u x : Nat) (hU : U = u) (hX : X = x) (hu : u < 8) (hx : x < 8) (w : World) : Calls Tryz.prog 152 #[.int .i64 U, .int .i64 X] w fun e w' => e = .returned (.int .i64 (Wt u x)) ∧ Below w.heap.size w w' := by
  subst hU hX; exact rweight_any u x hu hx w
end Co
end Go.Proofs.YtbmglemjfodfhaaGreat
namespace Go.Proofs.YtbmglemjfodfhaaGreat
open Go.RowKit
namespace Co
def refS (f : Nat → Int) (k n : Nat) : Int := sumN n fun i => Wt (i % 8) (k % 8) * Wt (i / 8) (k / 8) * f i
theorem sumN_mul (n : Nat) (g : Nat → Int) (c : Int) : c * sumN n g = sumN n fun i => c * g i := by
  induction n with
  | zero => simp [sumN]
  | succ n ih => simp only [sumN]; rw [Int.mul_add, ih]
theorem sumN_add (n m : Nat) (g : Nat → Int) : sumN (n + m) g = sumN n g + sumN m fun i => g (n + i) := by
  induction m with
  | zero => simp [sumN]
  | succ m ih =>
    show sumN (n + m) g + g (n + m) = _
    rw [ih]
    simp only [sumN]
    omega
theorem sumN_rows (n : Nat) (g : Nat → Int) : sumN (8 * n) g = sumN n fun a => sumN 8 fun b => g (8 * a + b) := by
  induction n with
  | zero => rfl
  | succ n ih =>
    rw [show 8 * (n + 1) = 8 * n + 8 by omega, sumN_add, ih]
    rfl
theorem refS_all (f : Nat → Int) (h : okV f 64 = true) (k : Nat) (hk : k < 64) : refS f k 64 = colsC (rowsC f) k := by
  have hf : ∀ i, i < 64 → -2048 ≤ f i ∧ f i ≤ 2048 := fun i hi => by have := inR_yes (okR_at h i hi); omega
  have hr := rowsC_bd f 2048 (by omega) hf
  unfold colsC
  rw [accW_sum (fun u => rowsC f (8 * u + k % 8)) (16384 * 2048) (by omega) (fun u hu => hr _ (by omega)) (k / 8) (by omega) 8 (Nat.le_refl 8)]
  unfold refS
  rw [show 64 = 8 * 8 from rfl, sumN_rows]
  refine sumN_congr fun a ha => ?_
  have e : rowsC f (8 * a + k % 8) = sumN 8 fun u => Wt u (k % 8) * f (8 * a + u) := by
    unfold rowsC
    rw [show (8 * a + k % 8) / 8 = a by omega, show (8 * a + k % 8) % 8 = k % 8 by omega]
    exact accW_sum _ 2048 (by omega) (fun u hu => hf _ (by omega)) _ (by omega) 8 (Nat.le_refl 8)
  rw [e, sumN_mul]
  refine sumN_congr fun u hu => ?_
  rw [show (8 * a + u) % 8 = u by omega, show (8 * a + u) / 8 = a by omega, Int.mul_comm (Wt u (k % 8)) (Wt a (k / 8)), Int.mul_assoc]
theorem refS_zero {f : Nat → Int} {i : Nat} (h : f i = 0) (k : Nat) : refS f k (i + 1) = refS f k i := by
  unfold refS; simp only [sumN]; rw [h]; omega
theorem refS_succ (f : Nat → Int) (i k : Nat) : refS f k (i + 1) = refS f k i + Wt (i % 8) (k % 8) * Wt (i / 8) (k / 8) * f i := rfl
theorem term_bd (f : Nat → Int) (i k : Nat) (hi : i < 64) (hk : k < 64) (h : -2048 ≤ f i ∧ f i ≤ 2048) : (-4194304 ≤ Wt (i % 8) (k % 8) * Wt (i / 8) (k / 8) ∧ Wt (i % 8) (k % 8) * Wt (i / 8) (k / 8) ≤ 4194304) ∧ -8589934592 ≤ Wt (i % 8) (k % 8) * Wt (i / 8) (k / 8) * f i ∧ Wt (i % 8) (k % 8) * Wt (i / 8) (k / 8) * f i ≤ 8589934592 := by
  have h1 := mul_bd _ _ _ _ (Wt_bd (i % 8) (k % 8) (by omega) (by omega)) (Wt_bd (i / 8) (k / 8) (by omega) (by omega))
  have h2 := mul_bd _ _ (2048 * 2048) _ h1 h
  omega
theorem refS_bd (f : Nat → Int) (k n : Nat) (hk : k < 64) (hn : n ≤ 64) (h : ∀ i, i < 64 → -2048 ≤ f i ∧ f i ≤ 2048) : -1000000000000 ≤ refS f k n ∧ refS f k n ≤ 1000000000000 := by
  have := sumN_bd n (fun i => Wt (i % 8) (k % 8) * Wt (i / 8) (k / 8) * f i) 8589934592 fun i hi => (term_bd f i k (by omega) hk (h i (by omega))).2
  unfold refS
  omega
theorem make64c (w : World) : (Instr.makeSlice 87 (.int .i64 64) (.int .i64 64)).run Tryz.prog w = .ok (.slice (some ⟨w.heap.size, 0, none⟩) 64 64) (w.alloc (.cells (rowOf .i64 64 (fun _ => 0)) 3)) := by kernel_rfl
theorem rinverse_long (a : Option Addr) (n c : Nat) (f : Nat → Int) (w : World) (h : n ≠ 64) :
    Calls Tryz.prog 113 #[.slice a n c] w (Inverts w n f) := by
  have e1 : vE n f = 2 := by unfold vE; rw [if_neg h]
  have e2 : vN n f = 0 := by unfold vN; rw [if_neg h]
  have k : ((n : Int) == 64) = false := by simp; omega
  have E1 := Lib.hid e1
  have E2 := Lib.hid e2
  clear e1 e2
  go_enter Tryz.func113, Tryz.ntmps113
  go_wp2
  go_ret2
  exact ⟨.slice none 0 0, by rw [E1.out]; rfl, by rw [E2.out]; exact .inl ⟨rfl, rfl⟩, Below.refl _ _⟩
set_option maxRecDepth 100000 in
set_option maxHeartbeats 4000000 in
theorem rinverse_row (b o c : Nat) (f : Nat → Int) (w : World) (h : Ints w .i64 b o 64 f) :
    Calls Tryz.prog 113 #[.slice (some ⟨b, o, none⟩) 64 c] w (Inverts w 64 f) := by
  have hblt := h.lt (by omega)
  have H := Lib.hid h
  have HE : Hid (vE 64 f = if okV f 64 then 0 else 3) := by show _ = _; unfold vE; rw [if_pos rfl]
  have HN : Hid (vN 64 f = if okV f 64 then 64 else 0) := by show _ = _; unfold vN; rw [if_pos rfl]
  clear h
  go_enter Tryz.func113, Tryz.ntmps113
  go_wp2
  go_loopw [4] (fun i wr => ∃ k : Nat, k ≤ 64 ∧ i = .int .i64 k ∧ okV f k = true ∧ wr = w) (fun i _ => 64 - (intOf i).toNat)
  case atStart => exact ⟨0, by omega, rfl, rfl, rfl⟩
  case round =>
    obtain ⟨k, hk, rfl, hok, rfl⟩ := hrel
    by_cases hk8 : k < 64
    · have ck := H.out.at k hk8
      have kb : (0 : Int) ≤ (k : Int) ∧ (k : Int) < 64 := by omega
      have OK := Lib.hid hok
      clear hok
      cases hkk : inR (-2048) 2047 (f k)
      · have EA : Hid (okV f 64 = false) := Lib.hid (okR_not hk8 hkk)
        rcases inR_no hkk with g | g
        · have _d : decide (f k < -2048) = true := by simp; omega
          clear hkk
          go_wp2
          go_ret2
          exact ⟨.slice none 0 0, by rw [HE.out, EA.out]; rfl, by rw [HN.out, EA.out]; exact .inl ⟨rfl, rfl⟩, Below.refl _ _⟩
        · have _d : decide (f k < -2048) = false := by simp; omega
          have _d2 : decide (2047 < f k) = true := by simp; omega
          clear hkk
          go_wp2
          go_ret2
          exact ⟨.slice none 0 0, by rw [HE.out, EA.out]; rfl, by rw [HN.out, EA.out]; exact .inl ⟨rfl, rfl⟩, Below.refl _ _⟩
      · have g := inR_yes hkk
        have _d : decide (f k < -2048) = false := by simp; omega
        have _d2 : decide (2047 < f k) = false := by simp; omega
        have KK := Lib.hid hkk
        clear hkk
        go_wp2
        go_roundw
        case rel => exact ⟨k + 1, by omega, by go_num, by have := OK.out; unfold okV at *; rw [okR_succ, this, KK.out]; rfl, by first | rfl | trivial⟩
        case measure => simp [intOf]; omega
    · have hok' : okV f 64 = true := by
        obtain rfl : k = 64 := by omega
        exact hok
      have HE' : Hid (vE 64 f = 0) := Lib.hid (by rw [HE.out, hok']; rfl)
      have HN' : Hid (vN 64 f = 64) := Lib.hid (by rw [HN.out, hok']; rfl)
      have HOK := Lib.hid hok'
      have FB : Hid (∀ i, i < 64 → -2048 ≤ f i ∧ f i ≤ 2048) := Lib.hid fun i hi => by have := inR_yes (okR_at hok' i hi); omega
      have hk' : 64 ≤ k := by omega
      obtain ⟨ws, rfl⟩ : ∃ ws : World, ws = wr := ⟨_, rfl⟩
      have M0 := Lib.hid (Arr.new ws .i64 (rowOf .i64 64 (fun _ => 0)) 126 64 (fun _ => 0) (fun i hi => rowOf_get _ _ _ _ hi))
      clear hok hok' hk hk8 HE HN
      go_wp2
      go_loopw [6] (fun i wx => ∃ j : Nat, j ≤ 64 ∧ i = .int .i64 j ∧ Arr wx .i64 ws.heap.size 64 (fun i => if i < j then wtF i else 0) ∧ Below ws.heap.size ws wx) (fun i _ => 64 - (intOf i).toNat)
      case atStart => exact ⟨0, by omega, rfl, M0.out.start, (Below.refl _ _).alloc (Nat.le_refl _) _⟩
      case round =>
        obtain ⟨j, hj, rfl, hA, hB⟩ := hrel
        by_cases hj64 : j < 64
        · have jb : (0 : Int) ≤ (j : Int) ∧ (j : Int) < 64 := by omega
          have hlo := hA.lt (by omega)
          have HA := Lib.hid hA
          have HB := Lib.hid hB
          have t1 : (j : Int).tmod 8 = (j : Int) % 8 := Int.tmod_eq_emod_of_nonneg (by omega)
          have t2 : (j : Int).tdiv 8 = (j : Int) / 8 := Int.tdiv_eq_ediv_of_nonneg (by omega)
          clear hA hB
          go_wp2_with (go_at_call 152; refine (rweight_at _ _ (j / 8) (j % 8) (by omega) (by omega) (by omega) (by omega) _).mono ?_; rintro e w1 ⟨rfl, hw⟩; have AW := HA.out.below hw hlo; have cy := AW j hj64; have AWH := Lib.hid AW; have HBW := Lib.hid (chain HB.out hw); clear AW hw)
          go_roundw
          case rel => exact ⟨j + 1, by omega, by go_num, AWH.out.fill _ rfl, HBW.out.setCell (p := ⟨ws.heap.size, j, none⟩) (Nat.le_refl _) _⟩
          case measure => simp [intOf]; omega
        · have hA' : Arr wr .i64 ws.heap.size 64 wtF := by
            obtain rfl : j = 64 := by omega
            exact hA.filled
          have hj' : 64 ≤ j := by omega
          have hmk := make64c
          obtain ⟨w2, rfl⟩ : ∃ w2 : World, w2 = wr := ⟨_, rfl⟩
          have zz := hB.size
          have hlw := hA'.lt (by omega)
          have MO := Lib.hid (Arr.new w2 .i64 (rowOf .i64 64 (fun _ => 0)) 3 64 (fun _ => 0) (fun i hi => rowOf_get _ _ _ _ hi))
          have HA := Lib.hid (hA'.alloc (.cells (rowOf .i64 64 (fun _ => 0)) 3))
          have HB := Lib.hid (hB.alloc zz (.cells (rowOf .i64 64 (fun _ => 0)) 3))
          have MS := Lib.hid (show ws.heap.size ≤ w2.heap.size from zz)
          have hne : w2.heap.size ≠ ws.heap.size := by omega
          clear hA hA' hB hj hj64
          go_wp2
          clear hmk
          go_loopw [8] (fun i wx => ∃ j : Nat, j ≤ 64 ∧ i = .int .i64 j ∧ Arr wx .i64 w2.heap.size 64 (fun k => refS f k j) ∧ Arr wx .i64 ws.heap.size 64 wtF ∧ Below ws.heap.size ws wx) (fun i _ => 64 - (intOf i).toNat)
          case atStart => exact ⟨0, by omega, rfl, MO.out, HA.out, HB.out⟩
          case round =>
            obtain ⟨i, hii, rfl, hO, hA, hB⟩ := hrel
            by_cases hi64 : i < 64
            · have ib : (0 : Int) ≤ (i : Int) ∧ (i : Int) < 64 := by omega
              have ci := (H.out.below hB hblt).at i hi64
              by_cases h0 : f i = 0
              · have kd : (f i == 0) = true := by simp [h0]
                have HO : Hid (Arr wr .i64 w2.heap.size 64 (fun k => refS f k (i + 1))) := Lib.hid (hO.congr fun k _ => (refS_zero h0 k).symm)
                have HA := Lib.hid hA
                have HB := Lib.hid hB
                clear hO hA hB
                go_wp2
                go_roundw
                case rel => exact ⟨i + 1, by omega, by go_num, HO.out, HA.out, HB.out⟩
                case measure => simp [intOf]; omega
              · have kd : (f i == 0) = false := by simp [h0]
                have HO := Lib.hid hO
                have HA := Lib.hid hA
                have HB := Lib.hid hB
                clear hO hA hB
                go_wp2
                go_loopw [9] (fun q wx => ∃ k : Nat, k ≤ 64 ∧ q = .int .i64 k ∧ Arr wx .i64 w2.heap.size 64 (fun k' => if k' < k then refS f k' (i + 1) else refS f k' i) ∧ Arr wx .i64 ws.heap.size 64 wtF ∧ Below ws.heap.size ws wx) (fun q _ => 64 - (intOf q).toNat)
                case atStart => exact ⟨0, by omega, rfl, HO.out.start, HA.out, HB.out⟩
                case round =>
                  obtain ⟨k, hk, rfl, hO, hA, hB⟩ := hrel
                  by_cases hk64 : k < 64
                  · have kb : (0 : Int) ≤ (k : Int) ∧ (k : Int) < 64 := by omega
                    have ci := (H.out.below hB hblt).at i hi64
                    have ck := hO k hk64
                    simp only [Nat.lt_irrefl, if_false] at ck
                    obtain ⟨ck1, ck2⟩ := ck
                    have cA := (hA (i % 8 * 8 + k % 8) (by omega)).1
                    have cB := (hA (i / 8 * 8 + k / 8) (by omega)).1
                    rw [wtF_at _ _ (by omega)] at cA cB
                    have tb := term_bd f i k hi64 hk64 (FB.out i hi64)
                    have sb := refS_bd f k i hk64 (by omega) FB.out
                    have ev : Hid (refS f k (i + 1) = refS f k i + Wt (i % 8) (k % 8) * Wt (i / 8) (k / 8) * f i) := Lib.hid (refS_succ f i k)
                    obtain ⟨p, hp⟩ : ∃ p, p = Wt (i % 8) (k % 8) * Wt (i / 8) (k / 8) := ⟨_, rfl⟩
                    obtain ⟨t, ht⟩ : ∃ t, t = p * f i := ⟨_, rfl⟩
                    rw [← hp, ← ht] at tb ev
                    have pe : Wt (i % 8) (k % 8) * Wt (i / 8) (k / 8) = p := hp.symm
                    have te : p * f i = t := ht.symm
                    have x1 : IntKind.i64.wrap p = p := IntWalk.i64_in _ (by omega)
                    have x2 : IntKind.i64.wrap t = t := IntWalk.i64_in _ (by omega)
                    have x3 : IntKind.i64.wrap (refS f k i + t) = refS f k i + t := IntWalk.i64_in _ (by omega)
                    have t1 : (i : Int).tmod 8 = (i : Int) % 8 := Int.tmod_eq_emod_of_nonneg (by omega)
                    have t2 : (i : Int).tdiv 8 = (i : Int) / 8 := Int.tdiv_eq_ediv_of_nonneg (by omega)
                    have t3 : (k : Int).tmod 8 = (k : Int) % 8 := Int.tmod_eq_emod_of_nonneg (by omega)
                    have t4 : (k : Int).tdiv 8 = (k : Int) / 8 := Int.tdiv_eq_ediv_of_nonneg (by omega)
                    have r1 : 0 ≤ (i : Int) % 8 ∧ (i : Int) % 8 ≤ 7 ∧ 0 ≤ (k : Int) % 8 ∧ (k : Int) % 8 ≤ 7 := by omega
                    have r2 : 0 ≤ (i : Int) / 8 ∧ (i : Int) / 8 ≤ 7 ∧ 0 ≤ (k : Int) / 8 ∧ (k : Int) / 8 ≤ 7 := by omega
                    have y1 : ((i : Int) % 8 * 8 + (k : Int) % 8).toNat = i % 8 * 8 + k % 8 := by omega
                    have y2 : ((i : Int) / 8 * 8 + (k : Int) / 8).toNat = i / 8 * 8 + k / 8 := by omega
                    have q1 : (0 : Int) ≤ (i : Int) % 8 * 8 + (k : Int) % 8 ∧ (i : Int) % 8 * 8 + (k : Int) % 8 < 64 := by omega
                    have q2 : (0 : Int) ≤ (i : Int) / 8 * 8 + (k : Int) / 8 ∧ (i : Int) / 8 * 8 + (k : Int) / 8 < 64 := by omega
                    have z1 : IntKind.i64.wrap ((i : Int) % 8 * 8) = (i : Int) % 8 * 8 := IntWalk.i64_in _ (by omega)
                    have z2 : IntKind.i64.wrap ((i : Int) / 8 * 8) = (i : Int) / 8 * 8 := IntWalk.i64_in _ (by omega)
                    have z3 : IntKind.i64.wrap ((i : Int) % 8 * 8 + (k : Int) % 8) = (i : Int) % 8 * 8 + (k : Int) % 8 := IntWalk.i64_in _ (by omega)
                    have z4 : IntKind.i64.wrap ((i : Int) / 8 * 8 + (k : Int) / 8) = (i : Int) / 8 * 8 + (k : Int) / 8 := IntWalk.i64_in _ (by omega)
                    have HO := Lib.hid hO
                    have HA := Lib.hid hA
                    have HB := Lib.hid hB
                    clear hO hA hB hp ht tb sb kd
                    go_wp2_with fail
                    go_region
                    go_wp2
                    go_roundw
                    case rel => exact ⟨k + 1, by omega, by go_num, (HO.out.fill _ ev.out.symm).drew, (HA.out.far (a := ⟨w2.heap.size, k, none⟩) hne _).drew, (HB.out.setCell (p := ⟨w2.heap.size, k, none⟩) MS.out _).drew⟩
                    case measure => simp [intOf]; omega
                  · have hO' : Arr wr .i64 w2.heap.size 64 (fun k => refS f k (i + 1)) := by
                      obtain rfl : k = 64 := by omega
                      exact hO.filled
                    have hk' : 64 ≤ k := by omega
                    have HO := Lib.hid hO'
                    have HA := Lib.hid hA
                    have HB := Lib.hid hB
                    clear hO hA hB hO' hk hk64
                    go_wp2
                    go_roundw
                    case rel => exact ⟨i + 1, by omega, by go_num, HO.out, HA.out, HB.out⟩
                    case measure => simp [intOf]; omega
            · have hO' : Arr wr .i64 w2.heap.size 64 (colsC (rowsC f)) := by
                obtain rfl : i = 64 := by omega
                exact hO.congr fun k hk => refS_all f HOK.out k hk
              have hi' : 64 ≤ i := by omega
              have HO := Lib.hid hO'
              have HB := Lib.hid hB
              have BD := Lib.hid (inv_bd f HOK.out)
              clear hO hA hB hO' hii hi64
              go_wp2
              go_loopw [10] (fun q wx => ∃ k : Nat, k ≤ 64 ∧ q = .int .i64 k ∧ Arr wx .i64 w2.heap.size 64 (fun i => if i < k then invC f i else colsC (rowsC f) i) ∧ Below ws.heap.size ws wx) (fun q _ => 64 - (intOf q).toNat)
              case atStart => exact ⟨0, by omega, rfl, HO.out.start, HB.out⟩
              case round =>
                obtain ⟨k, hk, rfl, hO, hB⟩ := hrel
                by_cases hk64 : k < 64
                · have ck := hO k hk64
                  simp only [Nat.lt_irrefl, if_false] at ck
                  obtain ⟨ck1, ck2⟩ := ck
                  have bk := BD.out k hk64
                  have kb : (0 : Int) ≤ (k : Int) ∧ (k : Int) < 64 := by omega
                  have HO := Lib.hid hO
                  have HB := Lib.hid hB
                  clear hO hB
                  go_wp2
                  go_roundw
                  case rel => exact ⟨k + 1, by omega, by go_num, HO.out.fill _ rfl, HB.out.setCell (p := ⟨w2.heap.size, k, none⟩) MS.out _⟩
                  case measure => simp [intOf]; omega
                · have hO' : Arr wr .i64 w2.heap.size 64 (invC f) := by
                    obtain rfl : k = 64 := by omega
                    exact hO.filled
                  have hk' : 64 ≤ k := by omega
                  have HO := Lib.hid hO'
                  have HB := Lib.hid hB
                  clear hO hB hO' hk hk64
                  go_wp2
                  go_ret2
                  exact ⟨_, by rw [HE'.out]; rfl, by rw [HN'.out]; exact .inr ⟨w2.heap.size, 64, rfl, MS.out, HO.out.lt (by omega), Nat.le_refl _, by decide, HO.out⟩, HB.out⟩
theorem rInverse_any (v : Value) (n : Nat) (f : Nat → Int) (w : World) (hs : Sl .i64 w v n f) :
    Calls Tryz.prog 113 #[v] w (Inverts w n f) := by
  obtain ⟨a, c, rfl, h1, h2, h3⟩ := hs
  by_cases h : n = 64
  · subst h
    rcases h3 with ⟨h3, _⟩ | ⟨b, o, rfl, _, h4⟩
    · omega
    · exact rinverse_row b o c f w h4
  · exact rinverse_long a n c f w h
end Co
end Go.Proofs.YtbmglemjfodfhaaGreat
namespace Go.Proofs.YtbmglemjfodfhaaGreat
open Go.RowKit
namespace Sc
theorem make64s (w : World) : (Instr.makeSlice 87 (.int .i64 64) (.int .i64 64)).run Tryz.prog w = .ok (.slice (some ⟨w.heap.size, 0, none⟩) 64 64) (w.alloc (.cells (rowOf .i64 64 (fun _ => 0)) 3)) := by kernel_rfl
theorem zr_new (w : World) (t : TypeId) : Arr (w.alloc (.cells (rowOf .i64 64 (fun _ => 0)) t)) .i64 w.heap.size 64 (fun _ => 0) := Arr.new w .i64 _ t 64 _ (fun i hi => rowOf_get _ _ _ _ hi)
def ZP (w wx : World) (u6 u7 u8 : Value) (first : Int) : Prop :=
  ∃ go gp, u6 = .slice (some ⟨go, 0, none⟩) 64 64 ∧ u7 = .int .i64 first ∧ u8 = .slice (some ⟨gp, 0, none⟩) 64 64 ∧ go ≠ gp ∧ w.heap.size ≤ go ∧ w.heap.size ≤ gp ∧ Arr wx .i64 go 64 (fun _ => 0) ∧ Arr wx .i64 gp 64 plF ∧ Below w.heap.size w wx
theorem zp_a (w : World) (t : TypeId) (first : Int) : ZP w ((w.alloc (.cells (rowOf .i64 64 (fun _ => 0)) t)).alloc (.cells (rowOf .i64 64 plF) t)).drew (.slice (some ⟨w.heap.size, 0, none⟩) 64 64) (.int .i64 first) (.slice (some ⟨w.heap.size + 1, 0, none⟩) 64 64) first := by
  have m2 := pl_new (w.alloc (.cells (rowOf .i64 64 (fun _ => 0)) t)) t
  rw [World.size_alloc] at m2
  exact ⟨_, _, rfl, rfl, rfl, by omega, Nat.le_refl _, by omega, ((zr_new w t).alloc _).drew, m2.drew, (((Below.refl w.heap.size w).alloc (Nat.le_refl _) _).alloc (by simp) _).drew⟩
theorem zp_b (w : World) (t : TypeId) (first : Int) : ZP w ((w.alloc (.cells (rowOf .i64 64 plF) t)).alloc (.cells (rowOf .i64 64 (fun _ => 0)) t)).drew (.slice (some ⟨w.heap.size + 1, 0, none⟩) 64 64) (.int .i64 first) (.slice (some ⟨w.heap.size, 0, none⟩) 64 64) first := by
  have m2 := zr_new (w.alloc (.cells (rowOf .i64 64 plF) t)) t
  rw [World.size_alloc] at m2
  exact ⟨_, _, rfl, rfl, rfl, by omega, by omega, Nat.le_refl _, m2.drew, ((pl_new w t).alloc _).drew, (((Below.refl w.heap.size w).alloc (Nat.le_refl _) _).alloc (by simp) _).drew⟩
theorem rspread_first (v : Value) (first : Int) (n : Nat) (r l : Nat → Int) (w : World) (hf : ¬ (first = 0 ∨ first = 1)) :
    Calls Tryz.prog 146 #[v, .int .i64 first] w (Spreads w first n r l) := by
  have E1 : Hid (sE first n r l = 3) := Lib.hid (by unfold sE; rw [if_neg hf])
  have E2 : Hid (sN first n r l = 0) := Lib.hid (by unfold sN; rw [E1.out]; rfl)
  have k0 : (first == 0) = false := by simp; omega
  have k1 : (first == 1) = false := by simp; omega
  have k2 : (first != 0) = true := by simp; omega
  have k3 : (first != 1) = true := by simp; omega
  clear hf
  go_enter Tryz.func146, Tryz.ntmps146
  go_wp2
  go_ret2
  exact ⟨.slice none 0 0, by rw [E1.out]; rfl, by rw [E2.out]; exact .inl ⟨rfl, rfl⟩, Below.refl _ _⟩
set_option maxRecDepth 100000 in
set_option maxHeartbeats 4000000 in
theorem rspread_in0 (v : Value) (a : Option Addr) (n c : Nat) (hv : v = .slice a n c) (r l : Nat → Int) (w : World) (hs : Pl w v n r l) (hn : n ≤ 1000) :
    Calls Tryz.prog 146 #[v, .int .i64 0] w (Spreads w 0 n r l) := by
  subst hv
  have RD : Hid (∀ i, i < n → ∃ b o, a = some ⟨b, o, none⟩ ∧ b < w.heap.size ∧ Pairs w b o n r l) := Lib.hid (by
    obtain ⟨a', c', he, _, _, h3⟩ := hs
    cases he
    intro i hi
    rcases h3 with ⟨h0, _⟩ | ⟨b, o, rfl, hb, hI⟩
    · omega
    · exact ⟨b, o, rfl, hb, hI⟩)
  have HE : Hid (sE 0 n r l = spE 0 r l n) := Lib.hid (by unfold sE; rw [if_pos (by decide)])
  have HN : Hid (sN 0 n r l = if spE 0 r l n = 0 then 64 else 0) := Lib.hid (by unfold sN; rw [HE.out])
  have hmk := make64s
  clear hs
  go_enter Tryz.func146, Tryz.ntmps146
  go_upto_region 3 with fail
  go_cut [6, 7, 8] from 16 (fun u6 u7 u8 wx => ZP w wx u6 u7 u8 0)
  case first =>
    go_region_with (go_at_call 167; refine (rorder_any _).mono ?_; rintro e w1 ⟨rfl, rfl⟩)
    all_goals (go_wp2_with fail; go_meet)
    all_goals first
      | exact zp_a w 3 0
      | exact zp_b w 3 0
  case rest =>
    obtain ⟨go, gp, rfl, rfl, rfl, hne, p1, p2, hA, hP, hB⟩ := hcut
    have HA := Lib.hid hA
    have HP := Lib.hid hP
    have HB := Lib.hid hB
    clear hA hP hB hmk
    go_wp2_with fail
    go_loopw [7, 9] (fun at_ i wr => ∃ k : Nat, k ≤ n ∧ at_ = .int .i64 (spA 0 r k) ∧ i = .int .i64 k ∧ spE 0 r l k = 0 ∧ Arr wr .i64 go 64 (spF 0 r l k) ∧ Arr wr .i64 gp 64 plF ∧ Below w.heap.size w wr) (fun _ i _ => n - (intOf i).toNat)
    case atStart => exact ⟨0, by omega, rfl, rfl, rfl, HA.out, HP.out, HB.out⟩
    case round =>
      obtain ⟨k, hk, rfl, rfl, hE, hA, hP, hB⟩ := hrel
      by_cases hkn : k < n
      · obtain ⟨b, o, rfl, hb, hI⟩ := RD.out k hkn
        obtain ⟨c1, c2⟩ := (hI.below hB hb) k hkn
        have kb : (0 : Int) ≤ (k : Int) ∧ (k : Int) < (n : Int) := by omega
        have ab := spA_bd (by decide) k hE
        have se := spE_succ 0 r l k
        rw [if_neg (by rw [hE]; simp)] at se
        obtain ⟨A, hAA⟩ : ∃ A, A = spA 0 r k := ⟨_, rfl⟩
        have sa : Hid (spA 0 r (k + 1) = A + r k + 1) := Lib.hid (by rw [hAA]; rfl)
        have sf : Hid (∀ p, p = at' (A + r k).toNat → spF 0 r l (k + 1) = fun i => if i = p then l k else spF 0 r l k i) := Lib.hid (by rw [hAA]; rintro p rfl; rfl)
        rw [← hAA] at ab se ⊢
        have HA := Lib.hid hA
        have HP := Lib.hid hP
        have HB := Lib.hid hB
        clear hA hP hB hI hE hAA
        by_cases g1 : l k = 0 ∨ lvl (l k) = false
        · rw [if_pos g1] at se
          have ES : Hid (spE 0 r l n = 10) := Lib.hid (by rw [spE_stay (by rw [se]; simp) n (by omega), se])
          clear se
          by_cases g0 : l k = 0
          · have kz : (l k == 0) = true := by simp [g0]
            go_wp2
            go_ret2
            exact ⟨.slice none 0 0, by rw [HE.out, ES.out]; rfl, by rw [HN.out, ES.out]; exact .inl ⟨rfl, rfl⟩, HB.out⟩
          · have kz : (l k == 0) = false := by simp [g0]
            have gl : ¬ (-127 ≤ l k ∧ l k ≤ 127) := by
              rcases g1 with g1 | g1
              · exact absurd g1 g0
              · simpa [lvl] using g1
            by_cases g3 : l k < -127
            · have d1 : decide (l k < -127) = true := by simp; omega
              go_wp2
              go_ret2
              exact ⟨.slice none 0 0, by rw [HE.out, ES.out]; rfl, by rw [HN.out, ES.out]; exact .inl ⟨rfl, rfl⟩, HB.out⟩
            · have d1 : decide (l k < -127) = false := by simp; omega
              have d2 : decide (127 < l k) = true := by simp; omega
              go_wp2
              go_ret2
              exact ⟨.slice none 0 0, by rw [HE.out, ES.out]; rfl, by rw [HN.out, ES.out]; exact .inl ⟨rfl, rfl⟩, HB.out⟩
        · rw [if_neg g1] at se
          have g0 : l k ≠ 0 := fun e => g1 (.inl e)
          have gl : -127 ≤ l k ∧ l k ≤ 127 := by
            by_cases e : -127 ≤ l k ∧ l k ≤ 127
            · exact e
            · exact absurd (.inr (by unfold lvl; simpa using e)) g1
          have kz : (l k == 0) = false := by simp [g0]
          have d3 : decide (l k < -127) = false := by simp; omega
          have d4 : decide (127 < l k) = false := by simp; omega
          clear g1
          by_cases g2 : r k < 0 ∨ 63 - A < r k
          · rw [if_pos g2] at se
            have ES : Hid (spE 0 r l n = 11) := Lib.hid (by rw [spE_stay (by rw [se]; simp) n (by omega), se])
            clear se
            by_cases g3 : r k < 0
            · have d1 : decide (r k < 0) = true := by simp [g3]
              go_wp2
              go_ret2
              exact ⟨.slice none 0 0, by rw [HE.out, ES.out]; rfl, by rw [HN.out, ES.out]; exact .inl ⟨rfl, rfl⟩, HB.out⟩
            · have d1 : decide (r k < 0) = false := by simp; omega
              have d2 : decide (63 - A < r k) = true := by simp; omega
              go_wp2
              go_ret2
              exact ⟨.slice none 0 0, by rw [HE.out, ES.out]; rfl, by rw [HN.out, ES.out]; exact .inl ⟨rfl, rfl⟩, HB.out⟩
          · rw [if_neg g2] at se
            have SE := Lib.hid se
            have d1 : decide (r k < 0) = false := by simp; omega
            have d2 : decide (63 - A < r k) = false := by simp; omega
            obtain ⟨q, hq⟩ : ∃ q : Nat, A + r k = (q : Int) := ⟨(A + r k).toNat, by omega⟩
            have q64 : q < 64 := by omega
            have qb : (0 : Int) ≤ (q : Int) ∧ (q : Int) < 64 := by omega
            obtain ⟨p, hp⟩ : ∃ p, p = at' q := ⟨_, rfl⟩
            have p64 : p < 64 := by rw [hp]; exact at_lt0 q q64
            have pb : (0 : Int) ≤ (p : Int) ∧ (p : Int) < 64 := by omega
            have PE : plF q = (p : Int) := by rw [hp]; rfl
            have FE := Lib.hid (sf.out p (by rw [hq, hp]; rfl))
            have cP := (HP.out q q64).1
            rw [PE] at cP
            have cA := HA.out p p64
            have x1 : IntKind.i64.wrap (A + r k) = A + r k := IntWalk.i64_in _ (by omega)
            clear se g2 hp PE sf
            go_wp2_with fail
            go_region
            go_wp2
            go_roundw
            case rel =>
              refine ⟨k + 1, by omega, by rw [sa.out, hq], by go_num, SE.out, ?_, ?_, ?_⟩
              · rw [FE.out]
                exact (HA.out.set p (l k)).drew
              · exact (HP.out.far (a := ⟨go, p, none⟩) hne _).drew
              · exact (HB.out.setCell (p := ⟨go, p, none⟩) p1 _).drew
            case measure => simp [intOf]; omega
      · have hE' : spE 0 r l n = 0 := by
          obtain rfl : k = n := by omega
          exact hE
        have hA' : Arr wr .i64 go 64 (spF 0 r l n) := by
          obtain rfl : k = n := by omega
          exact hA
        have HE2 : Hid (sE 0 n r l = 0) := Lib.hid (by rw [HE.out, hE'])
        have HN2 : Hid (sN 0 n r l = 64) := Lib.hid (by rw [HN.out, if_pos hE'])
        have HA := Lib.hid hA'
        have HB := Lib.hid hB
        have hk' : n ≤ k := by omega
        clear hA hP hB hE hE' hA' RD
        go_wp2
        go_ret2
        exact ⟨_, by rw [HE2.out]; rfl, by rw [HN2.out]; exact .inr ⟨go, 64, rfl, p1, HA.out.lt (by omega), Nat.le_refl _, by decide, HA.out⟩, HB.out⟩
set_option maxRecDepth 100000 in
set_option maxHeartbeats 4000000 in
theorem rspread_in1 (v : Value) (a : Option Addr) (n c : Nat) (hv : v = .slice a n c) (r l : Nat → Int) (w : World) (hs : Pl w v n r l) (hn : n ≤ 1000) :
    Calls Tryz.prog 146 #[v, .int .i64 1] w (Spreads w 1 n r l) := by
  subst hv
  have RD : Hid (∀ i, i < n → ∃ b o, a = some ⟨b, o, none⟩ ∧ b < w.heap.size ∧ Pairs w b o n r l) := Lib.hid (by
    obtain ⟨a', c', he, _, _, h3⟩ := hs
    cases he
    intro i hi
    rcases h3 with ⟨h0, _⟩ | ⟨b, o, rfl, hb, hI⟩
    · omega
    · exact ⟨b, o, rfl, hb, hI⟩)
  have HE : Hid (sE 1 n r l = spE 1 r l n) := Lib.hid (by unfold sE; rw [if_pos (by decide)])
  have HN : Hid (sN 1 n r l = if spE 1 r l n = 0 then 64 else 0) := Lib.hid (by unfold sN; rw [HE.out])
  have hmk := make64s
  clear hs
  go_enter Tryz.func146, Tryz.ntmps146
  go_upto_region 3 with fail
  go_cut [6, 7, 8] from 16 (fun u6 u7 u8 wx => ZP w wx u6 u7 u8 1)
  case first =>
    go_region_with (go_at_call 167; refine (rorder_any _).mono ?_; rintro e w1 ⟨rfl, rfl⟩)
    all_goals (go_wp2_with fail; go_meet)
    all_goals first
      | exact zp_a w 3 1
      | exact zp_b w 3 1
  case rest =>
    obtain ⟨go, gp, rfl, rfl, rfl, hne, p1, p2, hA, hP, hB⟩ := hcut
    have HA := Lib.hid hA
    have HP := Lib.hid hP
    have HB := Lib.hid hB
    clear hA hP hB hmk
    go_wp2_with fail
    go_loopw [7, 9] (fun at_ i wr => ∃ k : Nat, k ≤ n ∧ at_ = .int .i64 (spA 1 r k) ∧ i = .int .i64 k ∧ spE 1 r l k = 0 ∧ Arr wr .i64 go 64 (spF 1 r l k) ∧ Arr wr .i64 gp 64 plF ∧ Below w.heap.size w wr) (fun _ i _ => n - (intOf i).toNat)
    case atStart => exact ⟨0, by omega, rfl, rfl, rfl, HA.out, HP.out, HB.out⟩
    case round =>
      obtain ⟨k, hk, rfl, rfl, hE, hA, hP, hB⟩ := hrel
      by_cases hkn : k < n
      · obtain ⟨b, o, rfl, hb, hI⟩ := RD.out k hkn
        obtain ⟨c1, c2⟩ := (hI.below hB hb) k hkn
        have kb : (0 : Int) ≤ (k : Int) ∧ (k : Int) < (n : Int) := by omega
        have ab := spA_bd (by decide) k hE
        have se := spE_succ 1 r l k
        rw [if_neg (by rw [hE]; simp)] at se
        obtain ⟨A, hAA⟩ : ∃ A, A = spA 1 r k := ⟨_, rfl⟩
        have sa : Hid (spA 1 r (k + 1) = A + r k + 1) := Lib.hid (by rw [hAA]; rfl)
        have sf : Hid (∀ p, p = at' (A + r k).toNat → spF 1 r l (k + 1) = fun i => if i = p then l k else spF 1 r l k i) := Lib.hid (by rw [hAA]; rintro p rfl; rfl)
        rw [← hAA] at ab se ⊢
        have HA := Lib.hid hA
        have HP := Lib.hid hP
        have HB := Lib.hid hB
        clear hA hP hB hI hE hAA
        by_cases g1 : l k = 0 ∨ lvl (l k) = false
        · rw [if_pos g1] at se
          have ES : Hid (spE 1 r l n = 10) := Lib.hid (by rw [spE_stay (by rw [se]; simp) n (by omega), se])
          clear se
          by_cases g0 : l k = 0
          · have kz : (l k == 0) = true := by simp [g0]
            go_wp2
            go_ret2
            exact ⟨.slice none 0 0, by rw [HE.out, ES.out]; rfl, by rw [HN.out, ES.out]; exact .inl ⟨rfl, rfl⟩, HB.out⟩
          · have kz : (l k == 0) = false := by simp [g0]
            have gl : ¬ (-127 ≤ l k ∧ l k ≤ 127) := by
              rcases g1 with g1 | g1
              · exact absurd g1 g0
              · simpa [lvl] using g1
            by_cases g3 : l k < -127
            · have d1 : decide (l k < -127) = true := by simp; omega
              go_wp2
              go_ret2
              exact ⟨.slice none 0 0, by rw [HE.out, ES.out]; rfl, by rw [HN.out, ES.out]; exact .inl ⟨rfl, rfl⟩, HB.out⟩
            · have d1 : decide (l k < -127) = false := by simp; omega
              have d2 : decide (127 < l k) = true := by simp; omega
              go_wp2
              go_ret2
              exact ⟨.slice none 0 0, by rw [HE.out, ES.out]; rfl, by rw [HN.out, ES.out]; exact .inl ⟨rfl, rfl⟩, HB.out⟩
        · rw [if_neg g1] at se
          have g0 : l k ≠ 0 := fun e => g1 (.inl e)
          have gl : -127 ≤ l k ∧ l k ≤ 127 := by
            by_cases e : -127 ≤ l k ∧ l k ≤ 127
            · exact e
            · exact absurd (.inr (by unfold lvl; simpa using e)) g1
          have kz : (l k == 0) = false := by simp [g0]
          have d3 : decide (l k < -127) = false := by simp; omega
          have d4 : decide (127 < l k) = false := by simp; omega
          clear g1
          by_cases g2 : r k < 0 ∨ 63 - A < r k
          · rw [if_pos g2] at se
            have ES : Hid (spE 1 r l n = 11) := Lib.hid (by rw [spE_stay (by rw [se]; simp) n (by omega), se])
            clear se
            by_cases g3 : r k < 0
            · have d1 : decide (r k < 0) = true := by simp [g3]
              go_wp2
              go_ret2
              exact ⟨.slice none 0 0, by rw [HE.out, ES.out]; rfl, by rw [HN.out, ES.out]; exact .inl ⟨rfl, rfl⟩, HB.out⟩
            · have d1 : decide (r k < 0) = false := by simp; omega
              have d2 : decide (63 - A < r k) = true := by simp; omega
              go_wp2
              go_ret2
              exact ⟨.slice none 0 0, by rw [HE.out, ES.out]; rfl, by rw [HN.out, ES.out]; exact .inl ⟨rfl, rfl⟩, HB.out⟩
          · rw [if_neg g2] at se
            have SE := Lib.hid se
            have d1 : decide (r k < 0) = false := by simp; omega
            have d2 : decide (63 - A < r k) = false := by simp; omega
            obtain ⟨q, hq⟩ : ∃ q : Nat, A + r k = (q : Int) := ⟨(A + r k).toNat, by omega⟩
            have q64 : q < 64 := by omega
            have qb : (0 : Int) ≤ (q : Int) ∧ (q : Int) < 64 := by omega
            obtain ⟨p, hp⟩ : ∃ p, p = at' q := ⟨_, rfl⟩
            have p64 : p < 64 := by rw [hp]; exact at_lt0 q q64
            have pb : (0 : Int) ≤ (p : Int) ∧ (p : Int) < 64 := by omega
            have PE : plF q = (p : Int) := by rw [hp]; rfl
            have FE := Lib.hid (sf.out p (by rw [hq, hp]; rfl))
            have cP := (HP.out q q64).1
            rw [PE] at cP
            have cA := HA.out p p64
            have x1 : IntKind.i64.wrap (A + r k) = A + r k := IntWalk.i64_in _ (by omega)
            clear se g2 hp PE sf
            go_wp2_with fail
            go_region
            go_wp2
            go_roundw
            case rel =>
              refine ⟨k + 1, by omega, by rw [sa.out, hq], by go_num, SE.out, ?_, ?_, ?_⟩
              · rw [FE.out]
                exact (HA.out.set p (l k)).drew
              · exact (HP.out.far (a := ⟨go, p, none⟩) hne _).drew
              · exact (HB.out.setCell (p := ⟨go, p, none⟩) p1 _).drew
            case measure => simp [intOf]; omega
      · have hE' : spE 1 r l n = 0 := by
          obtain rfl : k = n := by omega
          exact hE
        have hA' : Arr wr .i64 go 64 (spF 1 r l n) := by
          obtain rfl : k = n := by omega
          exact hA
        have HE2 : Hid (sE 1 n r l = 0) := Lib.hid (by rw [HE.out, hE'])
        have HN2 : Hid (sN 1 n r l = 64) := Lib.hid (by rw [HN.out, if_pos hE'])
        have HA := Lib.hid hA'
        have HB := Lib.hid hB
        have hk' : n ≤ k := by omega
        clear hA hP hB hE hE' hA' RD
        go_wp2
        go_ret2
        exact ⟨_, by rw [HE2.out]; rfl, by rw [HN2.out]; exact .inr ⟨go, 64, rfl, p1, HA.out.lt (by omega), Nat.le_refl _, by decide, HA.out⟩, HB.out⟩
theorem rSpread_any (v : Value) (first : Int) (n : Nat) (r l : Nat → Int) (w : World) (hs : Pl w v n r l) (hn : n ≤ 1000) :
    Calls Tryz.prog 146 #[v, .int .i64 first] w (Spreads w first n r l) := by
  by_cases hf : first = 0 ∨ first = 1
  · have hs' := hs
    obtain ⟨a, c, hv, _⟩ := hs'
    rcases hf with rfl | rfl
    · exact rspread_in0 v a n c hv r l w hs hn
    · exact rspread_in1 v a n c hv r l w hs hn
  · exact rspread_first v first n r l w hf
end Sc
end Go.Proofs.YtbmglemjfodfhaaGreat
namespace Go.Proofs.YtbmglemjfodfhaaGreat
open Go.RowKit
namespace Bk
open Kd
theorem results_ct {fn : Func} {p u : Tmp} (hr : fn.results = #[.cell p 67, .tmp u]) (tmps : Array Value) {w : World} {B : Nat} {b1 b2 b3 b4 b5 : Bool} {v : Value}
    (hp : tmps.getD p undef = .pointer (some ⟨B, 0, none⟩)) (hu : tmps.getD u undef = v) (h : At w B #[.bool b1, .bool b2, .bool b3, .bool b4, .bool b5] 67) :
    (results fn tmps).run Tryz.prog w = .ok (.tuple #[.agg #[.bool b1, .bool b2, .bool b3, .bool b4, .bool b5], v]) w := by
  have d0 := h.cell 0 _ rfl
  have d1 := h.cell 1 _ rfl
  have d2 := h.cell 2 _ rfl
  have d3 := h.cell 3 _ rfl
  have d4 := h.cell 4 _ rfl
  have hp' : tmps[p]?.getD undef = .pointer (some ⟨B, 0, none⟩) := by simpa using hp
  have hu' : tmps[u]?.getD undef = v := by simpa using hu
  simp at d0 d1 d2 d3 d4
  simp [results, hr, hp', hu', asAddr, loadVar, go_sem, d0, d1, d2, d3, d4, Tryz.underlying67]
set_option maxRecDepth 100000 in
set_option maxHeartbeats 4000000 in
theorem rOf_any (k : Int) (w : World) : Calls Tryz.prog 62 #[.int .i64 k] w fun e w' => e = .returned (.tuple #[.agg (parts k), .int .i64 (kE k)]) ∧ Below w.heap.size w w' := by
  by_cases hk : 1 ≤ k ∧ k ≤ 10
  · rcases (by omega : k = 1 ∨ k = 2 ∨ k = 3 ∨ k = 4 ∨ k = 5 ∨ k = 6 ∨ k = 7 ∨ k = 8 ∨ k = 9 ∨ k = 10) with rfl | rfl | rfl | rfl | rfl | rfl | rfl | rfl | rfl | rfl <;>
    · go_enter Tryz.func62, Tryz.ntmps62
      go_wp2_with fail
      refine bodyPost_ret (results_ct rfl _ rfl rfl ((At.new w _ _).below ((Below.refl _ _).alloc (Nat.le_refl _) _))) rfl ?_
      exact ⟨rfl, ((Below.refl _ _).alloc (Nat.le_refl _) _).alloc (by simp) _⟩
  · have e1 : kOk k = false := by
      unfold kOk
      by_cases h1 : 1 ≤ k
      · rw [show decide (k ≤ 10) = false from decide_eq_false (by omega)]; simp
      · rw [show decide (1 ≤ k) = false from decide_eq_false h1]; simp
    have e2 := parts_no k e1
    have e3 : kE k = 18 := by unfold kE; rw [e1]; rfl
    rw [e2, e3]
    clear e1 e2 e3
    by_cases h1 : k < 1
    · clear hk
      go_enter Tryz.func62, Tryz.ntmps62
      go_wp2_with fail
      refine bodyPost_ret (results_ct rfl _ rfl rfl (At.new w _ _)) rfl ?_
      exact ⟨rfl, ((Below.refl _ _).alloc (Nat.le_refl _) _)⟩
    · have h2 : 10 < k := by omega
      clear hk
      go_enter Tryz.func62, Tryz.ntmps62
      go_wp2_with fail
      refine bodyPost_ret (results_ct rfl _ rfl rfl (At.new w _ _)) rfl ?_
      exact ⟨rfl, ((Below.refl _ _).alloc (Nat.le_refl _) _)⟩
theorem rcode_any (x : Int) (w : World) : Calls Tryz.prog 145 #[.int .i64 x] w fun e w' => e = .returned (.bool (decide (1 ≤ x) && decide (x ≤ 255) && (x != 128))) ∧ w = w' := by
  by_cases h1 : 1 ≤ x <;> by_cases h2 : x ≤ 255 <;> by_cases h3 : x = 128 <;>
  · go_enter Tryz.func145, Tryz.ntmps145
    go_wp2_with fail
    go_ret
    simp [*]
theorem rfirst_any (i : Bool) (w : World) : Calls Tryz.prog 147 #[.bool i] w fun e w' => e = .returned (.int .i64 (fst i)) ∧ w = w' := by
  cases i <;>
  · go_enter Tryz.func147, Tryz.ntmps147
    go_wp2_with fail
    go_ret
    exact ⟨rfl, rfl⟩
def wiB (t : Bool) (x lo hi : Int) : Bool := if t then decide (lo ≤ x) && decide (x ≤ hi) else x == 0
theorem within_any (t : Bool) (x lo hi : Int) (w : World) : Calls Tryz.prog 103 #[.bool t, .int .i64 x, .int .i64 lo, .int .i64 hi] w fun e w' => e = .returned (.bool (wiB t x lo hi)) ∧ w = w' := by
  unfold wiB
  cases t
  · go_enter Tryz.func103, Tryz.ntmps103
    go_wp2_with fail
    go_ret
    simp
  · by_cases h1 : lo ≤ x <;> by_cases h2 : x ≤ hi <;>
    · go_enter Tryz.func103, Tryz.ntmps103
      go_wp2_with fail
      go_ret
      simp [*]
set_option maxRecDepth 100000 in
set_option maxHeartbeats 4000000 in
theorem rHas_any (p b : Int) (w : World) (hb : 1 ≤ b ∧ b ≤ 6) : Calls Tryz.prog 65 #[.int .i64 p, .int .i64 b] w fun e w' => e = .returned (.bool (hasP p b)) ∧ w = w' := by
  have b1 : decide (1 ≤ b) = true := decide_eq_true hb.1
  have b2 : decide (b ≤ 6) = true := decide_eq_true hb.2
  by_cases h1 : 1 ≤ p
  · by_cases h2 : p ≤ 63
    · have e0 : IntKind.i64.wrap (6 - b) = 6 - b := IntWalk.i64_in _ (by omega)
      have e1 : IntKind.u64.wrap (6 - b) = 6 - b := by rw [IntKind.wrap_u64]; omega
      go_enter Tryz.func65, Tryz.ntmps65
      go_wp2_with fail
      go_ret
      have e3 : (p / 2 ^ (6 - b).toNat).tmod 2 = p / 2 ^ (6 - b).toNat % 2 := Int.tmod_eq_emod_of_nonneg (Int.ediv_nonneg (by omega) (by have h := Int.natCast_nonneg (2 ^ (6 - b).toNat); push_cast at h; exact h))
      refine ⟨?_, rfl⟩
      show Ending.returned (.bool ((p / 2 ^ (6 - b).toNat).tmod 2 == 1)) = _
      rw [e3]
      unfold hasP
      rw [b1, b2, show decide (1 ≤ p) = true from decide_eq_true h1, show decide (p ≤ 63) = true from decide_eq_true h2]
      simp
    · have h3 : hasP p b = false := hasP_no p b (by omega)
      rw [h3]
      go_enter Tryz.func65, Tryz.ntmps65
      go_wp2_with fail
      go_ret
      exact ⟨rfl, rfl⟩
  · have h3 : hasP p b = false := hasP_no p b (by omega)
    rw [h3]
    go_enter Tryz.func65, Tryz.ntmps65
    go_wp2_with fail
    go_ret
    exact ⟨rfl, rfl⟩
set_option maxRecDepth 100000 in
set_option maxHeartbeats 2000000 in
theorem rCount_any (p : Int) (w : World) : Calls Tryz.prog 104 #[.int .i64 p] w fun e w' => e = .returned (.int .i64 (cntP p 6)) ∧ w = w' := by
  go_enter Tryz.func104, Tryz.ntmps104
  go_wp2_with fail
  go_loopw [3, 4] (fun c x wr => ∃ k : Nat, k ≤ 6 ∧ x = .int .i64 ((k : Int) + 1) ∧ c = .int .i64 (cntP p k) ∧ wr = w) (fun _ x _ => 7 - (intOf x).toNat)
  case atStart => exact ⟨0, by omega, rfl, rfl, rfl⟩
  case round =>
    obtain ⟨k, hk, rfl, rfl, rfl⟩ := hrel
    by_cases hk6 : k < 6
    · have kb : (k : Int) + 1 ≤ 6 := by omega
      have ek : IntKind.i64.wrap ((k : Int) + 1 + 1) = (k : Int) + 1 + 1 := IntWalk.i64_in _ (by omega)
      have hc := cntP_bd p k
      have ec : IntKind.i64.wrap (cntP p k + 1) = cntP p k + 1 := IntWalk.i64_in _ (by omega)
      have HH := Lib.hid (fun V => rHas_any p ((k : Int) + 1) V (by omega))
      have SU : cntP p (k + 1) = cntP p k + (if hasP p ((k : Int) + 1) then 1 else 0) := rfl
      obtain ⟨C, hC⟩ : ∃ C, cntP p k = C := ⟨_, rfl⟩
      rw [hC] at ec SU ⊢
      obtain ⟨z, hz⟩ : ∃ z, hasP p ((k : Int) + 1) = z := ⟨_, rfl⟩
      rw [hz] at HH SU
      have HSU := Lib.hid SU
      clear hC hz SU hc
      cases z with
      | true =>
        go_wp2_with (go_at_call 65; refine (HH.out _).mono ?_; rintro e w1 ⟨rfl, rfl⟩)
        go_roundw
        case rel => exact ⟨k + 1, by omega, by go_num, by rw [HSU.out]; rfl, trivial⟩
        case measure => simp [intOf]; omega
      | false =>
        go_wp2_with (go_at_call 65; refine (HH.out _).mono ?_; rintro e w1 ⟨rfl, rfl⟩)
        go_roundw
        case rel => exact ⟨k + 1, by omega, by go_num, by rw [HSU.out]; simp, trivial⟩
        case measure => simp [intOf]; omega
    · have kb : ¬ (k : Int) + 1 ≤ 6 := by omega
      have hk7 : k = 6 := by omega
      subst hk7
      go_wp2_with fail
      go_ret
      exact ⟨rfl, rfl⟩
end Bk
end Go.Proofs.YtbmglemjfodfhaaGreat
namespace Go.Proofs.YtbmglemjfodfhaaGreat
open Go.RowKit
namespace Bk
open Kd Sc
def cdB (x : Int) : Bool := decide (1 ≤ x) && decide (x ≤ 255) && (x != 128)
theorem cdB_dE (dc : Int) (n : Nat) : dE dc n true = if cdB dc then 0 else 10 := by
  unfold dE cdB
  by_cases h1 : dc < 1
  · rw [show decide (1 ≤ dc) = false from decide_eq_false (by omega)]; simp [h1]
  · by_cases h2 : 255 < dc
    · rw [show decide (dc ≤ 255) = false from decide_eq_false (by omega)]; simp [h2]
    · by_cases h3 : dc = 128
      · subst h3; rfl
      · rw [show decide (1 ≤ dc) = true from decide_eq_true (by omega), show decide (dc ≤ 255) = true from decide_eq_true (by omega)]
        simp [h3]; omega
section
set_option maxRecDepth 100000
set_option maxHeartbeats 2000000
variable (dc : Int) (q : Option Addr) (n c : Nat) (r l : Nat → Int) (w : World)
theorem rCheck_pairs (i : Bool) (hn : n ≤ 1000) (hp : Pl w (.slice q n c) n r l) (h0 : dE dc n i = 0) :
    Calls Tryz.prog 105 #[bv dc q n c, .bool i] w fun e w' => e = .returned (.int .i64 (sE (fst i) n r l)) ∧ Below w.heap.size w w' := by
  have HB := Lib.hid ((Below.refl w.heap.size w).alloc (Nat.le_refl _) (.cells #[.int .i64 dc, .slice q n c] 74))
  have HA := Lib.hid (At.new w #[.int .i64 dc, .slice q n c] 74)
  have HS : Hid (∀ V, Pl V (.slice q n c) n r l → Calls Tryz.prog 146 #[.slice q n c, .int .i64 (fst i)] V fun e w' => ∃ v, e = .returned (.tuple #[v, .int .i64 (sE (fst i) n r l)]) ∧ Res .i64 V.heap.size w' v (sN (fst i) n r l) (spF (fst i) r l n) ∧ Below V.heap.size V w') := Lib.hid (fun V h => rSpread_any _ (fst i) n r l V h hn)
  have HP := Lib.hid (hp.below (HB.out.drew))
  have k0 := HA.out.cell 0 _ rfl
  have k1 := HA.out.cell 1 _ rfl
  obtain ⟨E, hE⟩ : ∃ E, sE (fst i) n r l = E := ⟨_, rfl⟩
  obtain ⟨SN, hN⟩ : ∃ x, sN (fst i) n r l = x := ⟨_, rfl⟩
  obtain ⟨SF, hF⟩ : ∃ x, spF (fst i) r l n = x := ⟨_, rfl⟩
  rw [hE, hN, hF] at HS
  rw [hE]
  have HB := Lib.hid HB.out.drew
  have HA := Lib.hid (HA.out.below (Below.refl _ _).drew)
  clear hp hE hN hF
  cases i with
  | true =>
    have hcd : (decide (1 ≤ dc) && decide (dc ≤ 255) && (dc != 128)) = true := by
      have := cdB_dE dc n
      rw [h0] at this
      unfold cdB at this
      by_cases h : (decide (1 ≤ dc) && decide (dc ≤ 255) && (dc != 128)) = true
      · exact h
      · rw [if_neg h] at this; cases this
    have HCD := Lib.hid (fun V => rcode_any dc V)
    rw [hcd] at HCD
    clear h0 hcd
    go_enter Tryz.func105, Tryz.ntmps105
    go_upto_region 5 with (go_at_call 145; refine (HCD.out _).mono ?_; rintro e w1 ⟨rfl, rfl⟩)
    clear k0 k1
    have k1 := HA.out.cell 1 _ rfl
    go_region_with (first
      | (go_at_call 147; refine (rfirst_any _ _).mono ?_; rintro e w1 ⟨rfl, rfl⟩)
      | (go_at_call 146; refine (HS.out _ HP.out).mono ?_; rintro e w2 ⟨v, rfl, _, h2⟩; have HB := Lib.hid (chain HB.out h2); clear h2))
    all_goals (go_wp2_with fail; go_ret; exact ⟨rfl, HB.out⟩)
  | false =>
    have hd : dc = 0 ∧ n ≠ 0 := by
      unfold dE at h0
      by_cases h : dc ≠ 0 ∨ n = 0
      · rw [if_neg (by decide), if_pos h] at h0; cases h0
      · omega
    have d1 : (dc != 0) = false := by simp [hd.1]
    have d2 : ((n : Int) == 0) = false := by simp; omega
    clear h0 hd
    go_enter Tryz.func105, Tryz.ntmps105
    go_upto_region 5 with fail
    clear k0 k1
    have k1 := HA.out.cell 1 _ rfl
    go_region_with (first
      | (go_at_call 147; refine (rfirst_any _ _).mono ?_; rintro e w1 ⟨rfl, rfl⟩)
      | (go_at_call 146; refine (HS.out _ HP.out).mono ?_; rintro e w2 ⟨v, rfl, _, h2⟩; have HB := Lib.hid (chain HB.out h2); clear h2))
    all_goals (go_wp2_with fail; go_ret; exact ⟨rfl, HB.out⟩)
theorem rCheck_no (i : Bool) (h0 : dE dc n i ≠ 0) :
    Calls Tryz.prog 105 #[bv dc q n c, .bool i] w fun e w' => e = .returned (.int .i64 (dE dc n i)) ∧ Below w.heap.size w w' := by
  have HB := Lib.hid ((Below.refl w.heap.size w).alloc (Nat.le_refl _) (.cells #[.int .i64 dc, .slice q n c] 74))
  have HA := Lib.hid (At.new w #[.int .i64 dc, .slice q n c] 74)
  have k0 := HA.out.cell 0 _ rfl
  have k1 := HA.out.cell 1 _ rfl
  cases i with
  | true =>
    have e := cdB_dE dc n
    have hcd : (decide (1 ≤ dc) && decide (dc ≤ 255) && (dc != 128)) = false := by
      unfold cdB at e
      cases h : (decide (1 ≤ dc) && decide (dc ≤ 255) && (dc != 128))
      · rfl
      · rw [h, if_pos rfl] at e; exact absurd e h0
    have HCD := Lib.hid (fun V => rcode_any dc V)
    rw [hcd] at HCD
    rw [e, show cdB dc = false from hcd, if_neg (by decide)]
    clear h0 hcd e
    go_enter Tryz.func105, Tryz.ntmps105
    go_wp2_with (go_at_call 145; refine (HCD.out _).mono ?_; rintro e w1 ⟨rfl, rfl⟩)
    go_ret
    exact ⟨rfl, HB.out⟩
  | false =>
    have e : dE dc n false = 2 := by
      unfold dE at h0 ⊢
      rw [if_neg (by decide)] at h0 ⊢
      by_cases h : dc ≠ 0 ∨ n = 0
      · rw [if_pos h]
      · rw [if_neg h] at h0; exact absurd rfl h0
    have hd : dc ≠ 0 ∨ n = 0 := by
      unfold dE at e
      rw [if_neg (by decide)] at e
      by_cases h : dc ≠ 0 ∨ n = 0
      · exact h
      · rw [if_neg h] at e; cases e
    rw [e]
    clear h0 e
    by_cases h1 : dc = 0
    · have d1 : (dc != 0) = false := by simp [h1]
      have h2 : n = 0 := by omega
      have d2 : ((n : Int) == 0) = true := by simp [h2]
      clear hd h1 h2
      go_enter Tryz.func105, Tryz.ntmps105
      go_wp2_with fail
      go_ret
      exact ⟨rfl, HB.out⟩
    · have d1 : (dc != 0) = true := by simp [h1]
      clear hd h1
      go_enter Tryz.func105, Tryz.ntmps105
      go_wp2_with fail
      go_ret
      exact ⟨rfl, HB.out⟩
theorem rCheck_any (i : Bool) (hn : n ≤ 1000) (hp : Pl w (.slice q n c) n r l) :
    Calls Tryz.prog 105 #[bv dc q n c, .bool i] w fun e w' => e = .returned (.int .i64 (bE dc n r l i)) ∧ Below w.heap.size w w' := by
  unfold bE
  by_cases h : dE dc n i = 0
  · rw [if_neg (by simp [h])]
    exact rCheck_pairs dc q n c r l w i hn hp h
  · rw [if_pos h]
    exact rCheck_no dc q n c w i h
end
end Bk
end Go.Proofs.YtbmglemjfodfhaaGreat
namespace Go.Proofs.YtbmglemjfodfhaaGreat
open Go.RowKit
namespace Bk
open Kd Sc Qu
section
set_option maxRecDepth 100000
set_option maxHeartbeats 2000000
variable (dc : Int) (q : Option Addr) (n c : Nat) (r l : Nat → Int) (i : Bool)
theorem rLevels_any (hn : n ≤ 1000) (w : World) (hp : Pl w (.slice q n c) n r l) :
    Calls Tryz.prog 110 #[bv dc q n c, .bool i] w fun e w' => ∃ v, e = .returned (.tuple #[v, .int .i64 (bE dc n r l i)]) ∧ Res .i64 w.heap.size w' v (lN dc n r l i) (spF (fst i) r l n) ∧ Below w.heap.size w w' := by
  have HC := Lib.hid (fun V (h : Pl V (.slice q n c) n r l) => rCheck_any dc q n c r l V i hn h)
  have HE := Lib.hid (@bE_sE dc n r l i)
  have HN : lN dc n r l i = if bE dc n r l i = 0 then 64 else 0 := rfl
  obtain ⟨E, hE⟩ : ∃ E, bE dc n r l i = E := ⟨_, rfl⟩
  rw [hE] at HC HE HN
  rw [hE, HN]
  clear hE HN
  have HS : Hid (∀ V, Pl V (.slice q n c) n r l → Calls Tryz.prog 146 #[.slice q n c, .int .i64 (fst i)] V fun e w' => ∃ v, e = .returned (.tuple #[v, .int .i64 (sE (fst i) n r l)]) ∧ Res .i64 V.heap.size w' v (sN (fst i) n r l) (spF (fst i) r l n) ∧ Below V.heap.size V w') := Lib.hid (fun V h => rSpread_any _ (fst i) n r l V h hn)
  have HB := Lib.hid ((Below.refl w.heap.size w).alloc (Nat.le_refl _) (.cells #[.int .i64 dc, .slice q n c] 74))
  have HA := Lib.hid (At.new w #[.int .i64 dc, .slice q n c] 74)
  have HP := Lib.hid (hp.below HB.out)
  have k0 := HA.out.cell 0 _ rfl
  have k1 := HA.out.cell 1 _ rfl
  have z0 : sN (fst i) n r l = if sE (fst i) n r l = 0 then 64 else 0 := rfl
  obtain ⟨SE, hSE⟩ : ∃ x, sE (fst i) n r l = x := ⟨_, rfl⟩
  obtain ⟨SN, hSN⟩ : ∃ x, sN (fst i) n r l = x := ⟨_, rfl⟩
  obtain ⟨SF, hSF⟩ : ∃ x, spF (fst i) r l n = x := ⟨_, rfl⟩
  rw [hSE] at HE
  rw [hSE, hSN] at z0
  rw [hSE, hSN, hSF] at HS
  rw [hSF]
  clear hSE hSN hSF hp
  by_cases h0 : E = 0
  · have e0 : SE = 0 := HE.out h0
    rw [e0] at HS z0
    rw [z0] at HS
    simp only [if_pos] at HS
    subst h0
    have e1 : ((0 : Int) != 0) = false := by decide
    clear e0 z0
    go_enter Tryz.func110, Tryz.ntmps110
    go_upto_region 4 with (go_at_call 105; refine (HC.out _ HP.out).mono ?_; rintro e w1 ⟨rfl, h1⟩; have HB := Lib.hid (chain HB.out h1); have HA := Lib.hid (HA.out.below h1); have HP := Lib.hid (HP.out.below h1); clear h1 k0 k1)
    have hz := HB.out.size
    have HB := Lib.hid HB.out.drew
    have HA := Lib.hid (HA.out.below (Below.refl _ _).drew)
    have HP := Lib.hid (HP.out.below (Below.refl _ _).drew)
    have k1 := HA.out.cell 1 _ rfl
    go_region_with (first
      | (go_at_call 147; refine (rfirst_any _ _).mono ?_; rintro e w2 ⟨rfl, rfl⟩)
      | (go_at_call 146; refine (HS.out _ HP.out).mono ?_; rintro e w2 ⟨v, rfl, hR, h2⟩; have HR := Lib.hid (Res.base hR hz); have HB := Lib.hid (chain HB.out h2); clear h2 hR))
    all_goals (go_wp2_with fail; go_ret2; exact ⟨_, rfl, HR.out, HB.out⟩)
  · have e1 : (E != 0) = true := by simpa using h0
    rw [if_neg h0]
    clear h0 z0
    go_enter Tryz.func110, Tryz.ntmps110
    go_wp2_with (go_at_call 105; refine (HC.out _ HP.out).mono ?_; rintro e w1 ⟨rfl, h1⟩; have HB := Lib.hid (chain HB.out h1); clear h1 k0 k1)
    go_ret2
    exact ⟨_, rfl, .inl ⟨rfl, rfl⟩, HB.out⟩
theorem okAll_no (f : Nat → Int) (q : Int) (h : q < 1 ∨ 31 < q) : okAll f q 64 = false := okAll_not (i := 0) (by omega) (by unfold okB; exact decide_eq_false (by omega))
theorem rResidue_any (by' : Int) (hn : n ≤ 1000) (w : World) (hp : Pl w (.slice q n c) n r l) :
    Calls Tryz.prog 67 #[bv dc q n c, .int .i64 by', .bool i] w fun e w' => ∃ v, e = .returned (.tuple #[v, .int .i64 (rsE dc n r l i by')]) ∧ Res .i64 w.heap.size w' v (rsN dc n r l i by') (Co.invC (wF dc n r l i by')) ∧ Below w.heap.size w w' := by
  have HL := Lib.hid (fun V (h : Pl V (.slice q n c) n r l) => rLevels_any dc q n c r l i hn V h)
  have HB := Lib.hid ((Below.refl w.heap.size w).alloc (Nat.le_refl _) (.cells #[.int .i64 dc, .slice q n c] 74))
  have HA := Lib.hid (At.new w #[.int .i64 dc, .slice q n c] 74)
  have HP := Lib.hid (hp.below HB.out)
  have k0 := HA.out.cell 0 _ rfl
  have k1 := HA.out.cell 1 _ rfl
  clear hp
  by_cases h0 : bE dc n r l i = 0
  · rw [h0, show lN dc n r l i = 64 from if_pos h0] at HL
    obtain ⟨F, hF⟩ : ∃ F, spF (fst i) r l n = F := ⟨_, rfl⟩
    have bF : ∀ p, -127 ≤ F p ∧ F p ≤ 127 := fun p => by rw [← hF]; exact sp_levels i n r l (bE_sE h0) p
    have HIr := Lib.hid (fun V v (hs : Sl .i64 V v 64 F) => rInter_any v 64 F by' V hs)
    have HIa := Lib.hid (fun V v (hs : Sl .i64 V v 64 F) => rIntra_any v 64 F by' dc V hs)
    unfold Inters at HIr
    unfold Intras at HIa
    by_cases hq : by' < 1 ∨ 31 < by'
    · have e3 : rsE dc n r l i by' = 3 := by unfold rsE; rw [if_neg (by simp [h0]), if_pos hq]
      rw [e3, show rsN dc n r l i by' = 0 by unfold rsN; rw [e3]; rfl]
      have n1 : iE 64 F by' = 3 := by unfold iE; rw [if_pos rfl, okAll_no F by' hq]; rfl
      have n2 : iN 64 F by' = 0 := by unfold iN; rw [if_pos rfl, okAll_no F by' hq]; rfl
      have n3 : aE 64 F by' dc = 3 := by unfold aE; rw [n1]; rfl
      rw [n1, n2] at HIr
      rw [n3] at HIa
      obtain ⟨R, hR⟩ : ∃ R, Co.invC (wF dc n r l i by') = R := ⟨_, rfl⟩
      rw [hR]
      rw [hF] at HL
      clear hR hF bF h0 e3 n1 n2 n3 hq
      cases i with
      | false =>
        go_enter Tryz.func67, Tryz.ntmps67
        go_wp2_with (first
          | (go_at_call 110; refine (HL.out _ HP.out).mono ?_; rintro e w1 ⟨v1, rfl, hR, h1⟩; have HB := Lib.hid (chain HB.out h1); have HR1 := Lib.hid hR; clear h1 hR k0 k1)
          | (go_at_call 111; refine (HIr.out _ _ HR1.out.sl).mono ?_; rintro e w2 ⟨v2, rfl, _, h1⟩; have HB := Lib.hid (chain HB.out h1); clear h1))
        go_ret2
        exact ⟨_, rfl, .inl ⟨rfl, rfl⟩, HB.out⟩
      | true =>
        go_enter Tryz.func67, Tryz.ntmps67
        go_wp2_with (first
          | (go_at_call 110; refine (HL.out _ HP.out).mono ?_; rintro e w1 ⟨v1, rfl, hR, h1⟩; have HB := Lib.hid (chain HB.out h1); have HR1 := Lib.hid hR; have HA := Lib.hid (HA.out.below h1); clear h1 hR k0 k1)
          | (go_at_call 111; refine (HIr.out _ _ HR1.out.sl).mono ?_; rintro e w2 ⟨v2, rfl, _, h1⟩; have HB := Lib.hid (chain HB.out h1); have HR1 := Lib.hid (HR1.out.sl.below h1); have HA := Lib.hid (HA.out.below h1); have k0 := HA.out.cell 0 _ rfl; clear h1)
          | (go_at_call 112; refine (HIa.out _ _ HR1.out).mono ?_; rintro e w2 ⟨v2, rfl, _, h1⟩; have HB := Lib.hid (chain HB.out h1); clear h1 k0))
        go_ret2
        exact ⟨_, rfl, .inl ⟨rfl, rfl⟩, HB.out⟩
    · have e3 : rsE dc n r l i by' = 0 := by unfold rsE; rw [if_neg (by simp [h0]), if_neg hq]
      rw [e3, show rsN dc n r l i by' = 64 by unfold rsN; rw [e3]; rfl]
      have okA := ok_all F by' (by omega) (by omega) bF
      have okI := ok_v _ (wF_bd dc n r l i by' (by omega))
      have n1 : iE 64 F by' = 0 := by unfold iE; rw [if_pos rfl, okA]; rfl
      have n2 : iN 64 F by' = 64 := by unfold iN; rw [if_pos rfl, okA]; rfl
      have HI : Hid (∀ V v, Sl .i64 V v 64 (wF dc n r l i by') → Calls Tryz.prog 113 #[v] V fun e w' => ∃ v', e = .returned (.tuple #[v', .int .i64 0]) ∧ Res .i64 V.heap.size w' v' 64 (Co.invC (wF dc n r l i by')) ∧ Below V.heap.size V w') := Lib.hid (fun V v hs => by
        have := Co.rInverse_any v 64 _ V hs
        unfold Co.Inverts at this
        rw [show Co.vE 64 (wF dc n r l i by') = 0 by unfold Co.vE; rw [if_pos rfl, okI]; rfl, show Co.vN 64 (wF dc n r l i by') = 64 by unfold Co.vN; rw [if_pos rfl, okI]; rfl] at this
        exact this)
      rw [n1, n2] at HIr
      have HE := bE_dE h0
      cases i with
      | false =>
        rw [show (fun j => val (F j) by') = wF dc n r l false by' by unfold wF; rw [← hF]; rfl] at HIr
        obtain ⟨G, hG⟩ : ∃ G, wF dc n r l false by' = G := ⟨_, rfl⟩
        rw [hG] at HI HIr
        rw [hG]
        obtain ⟨R, hR⟩ : ∃ R, Co.invC G = R := ⟨_, rfl⟩
        rw [hR] at HI
        rw [hR]
        rw [hF] at HL
        clear hR hF bF h0 hG okA okI e3 n1 n2 hq HE HIa
        go_enter Tryz.func67, Tryz.ntmps67
        go_wp2_with (first
          | (go_at_call 110; refine (HL.out _ HP.out).mono ?_; rintro e w1 ⟨v1, rfl, hR, h1⟩; have HB := Lib.hid (chain HB.out h1); have HR1 := Lib.hid hR; clear h1 hR k0 k1)
          | (go_at_call 111; refine (HIr.out _ _ HR1.out.sl).mono ?_; rintro e w2 ⟨v2, rfl, hR, h1⟩; have HB := Lib.hid (chain HB.out h1); have HR2 := Lib.hid hR; clear h1 hR)
          | (go_at_call 113; refine (HI.out _ _ HR2.out.sl).mono ?_; rintro e w3 ⟨v3, rfl, hR, h1⟩; have sz := HB.out.size; have HB := Lib.hid (chain HB.out h1); have HR3 := Lib.hid hR; clear h1 hR))
        go_ret2
        exact ⟨_, rfl, Res.base HR3.out sz, HB.out⟩
      | true =>
        have e0 := dE_dcE HE
        rw [show aE 64 F by' dc = 0 by unfold aE; rw [if_pos n1, e0], show aN 64 F by' dc = 64 by unfold aN; rw [if_pos ⟨n1, e0⟩], show aV F by' dc = wF dc n r l true by' by unfold wF; rw [← hF]; rfl] at HIa
        obtain ⟨G, hG⟩ : ∃ G, wF dc n r l true by' = G := ⟨_, rfl⟩
        rw [hG] at HI HIa
        rw [hG]
        obtain ⟨R, hR⟩ : ∃ R, Co.invC G = R := ⟨_, rfl⟩
        rw [hR] at HI
        rw [hR]
        rw [hF] at HL
        clear hR hF bF h0 hG okA okI e0 e3 n1 n2 hq HE
        go_enter Tryz.func67, Tryz.ntmps67
        go_wp2_with (first
          | (go_at_call 110; refine (HL.out _ HP.out).mono ?_; rintro e w1 ⟨v1, rfl, hR, h1⟩; have HB := Lib.hid (chain HB.out h1); have HR1 := Lib.hid hR; have HA := Lib.hid (HA.out.below h1); clear h1 hR k0 k1)
          | (go_at_call 111; refine (HIr.out _ _ HR1.out.sl).mono ?_; rintro e w2 ⟨v2, rfl, _, h1⟩; have HB := Lib.hid (chain HB.out h1); have HR1 := Lib.hid (HR1.out.sl.below h1); have HA := Lib.hid (HA.out.below h1); have k0 := HA.out.cell 0 _ rfl; clear h1)
          | (go_at_call 112; refine (HIa.out _ _ HR1.out).mono ?_; rintro e w2 ⟨v2, rfl, hR, h1⟩; have HB := Lib.hid (chain HB.out h1); have HR2 := Lib.hid hR; clear h1 hR k0)
          | (go_at_call 113; refine (HI.out _ _ HR2.out.sl).mono ?_; rintro e w3 ⟨v3, rfl, hR, h1⟩; have sz := HB.out.size; have HB := Lib.hid (chain HB.out h1); have HR3 := Lib.hid hR; clear h1 hR))
        go_ret2
        exact ⟨_, rfl, Res.base HR3.out sz, HB.out⟩
  · obtain ⟨E, hE⟩ : ∃ E, bE dc n r l i = E := ⟨_, rfl⟩
    have e3 : rsE dc n r l i by' = E := by unfold rsE; rw [if_pos h0, hE]
    rw [e3, show rsN dc n r l i by' = 0 by unfold rsN; rw [e3, ← hE, if_neg h0]]
    clear e3
    rw [show lN dc n r l i = 0 from if_neg h0, hE] at HL
    rw [hE] at h0
    have t1 : (E != 0) = true := by simp [h0]
    obtain ⟨R, hR⟩ : ∃ R, Co.invC (wF dc n r l i by') = R := ⟨_, rfl⟩
    obtain ⟨F, hF⟩ : ∃ F, spF (fst i) r l n = F := ⟨_, rfl⟩
    rw [hR]
    rw [hF] at HL
    clear hR hF h0 hE
    go_enter Tryz.func67, Tryz.ntmps67
    go_wp2_with (go_at_call 110; refine (HL.out _ HP.out).mono ?_; rintro e w1 ⟨v1, rfl, hR, h1⟩; have HB := Lib.hid (chain HB.out h1); clear h1 hR k0 k1)
    go_ret2
    exact ⟨_, rfl, .inl ⟨rfl, rfl⟩, HB.out⟩
end
end Bk
end Go.Proofs.YtbmglemjfodfhaaGreat
namespace Go.Proofs.YtbmglemjfodfhaaGreat
open Go.RowKit
namespace Bk
open Kd
def MB.rb1 (M : MB) : Bool := (kE M.kd != 0) || decide (M.ad < 1) || decide (33 < M.ad) || !wiB (pQ M.kd) M.qt 1 31 || !wiB (pV M.kd) M.x (-15) 15 || !wiB (pV M.kd) M.y (-15) 15
def MB.rpt (M : MB) : Bool := if pI M.kd then M.pt == 63 else wiB (pC M.kd) M.pt 1 63
def MB.rb2 (M : MB) : Bool := !M.rpt || ((M.m : Int) != cntP M.pt 6)
theorem MB.rbad (M : MB) : (M.rb1 || M.rb2) = (M.bad1 || M.bad2) := by
  unfold MB.rb1 MB.rb2 MB.bad1 MB.bad2 MB.rpt MB.qok MB.most wiB prt
  cases pI M.kd <;> cases pC M.kd <;> cases pV M.kd <;> cases pQ M.kd <;>
  · rw [Bool.eq_iff_iff]
    simp only [Bool.or_eq_true, Bool.not_eq_true', Bool.and_eq_true, Bool.and_eq_false_iff, decide_eq_true_eq, decide_eq_false_iff_not, bne_iff_ne, beq_iff_eq, beq_eq_false_iff_ne, if_true, if_false, Bool.false_eq_true, Bool.not_false, Bool.not_true, Bool.or_false, Bool.false_or, Bool.true_or, ne_eq, Bool.true_and, Bool.false_and, Bool.or_true, Bool.and_true, Bool.and_false]
    omega
theorem MB.re (M : MB) : M.e = if M.rb1 = true then 2 else if M.rb2 = true then 2 else if M.okBs then 0 else 2 := by
  have h := M.rbad
  unfold MB.e
  cases h1 : M.rb1 <;> cases h2 : M.rb2 <;> cases h3 : M.bad1 <;> cases h4 : M.bad2 <;> rw [h1, h2, h3, h4] at h <;> first | rfl | cases h
section
set_option maxRecDepth 100000
set_option maxHeartbeats 4000000
set_option linter.unusedVariables false
theorem rmCheck_any (M : MB) (v : Value) (w : World) (hs : M.at w v) :
    Calls Tryz.prog 61 #[mv M v] w fun e w' => e = .returned (.int .i64 M.e) ∧ Below w.heap.size w w' := by
  have HB := Lib.hid ((Below.refl w.heap.size w).alloc (Nat.le_refl _) (.cells #[.int .i64 M.ad, .int .i64 M.kd, .int .i64 M.qt, .int .i64 M.x, .int .i64 M.y, .int .i64 M.pt, v] 24))
  have H1 : Hid (At _ _ _ _) := Lib.hid (At.new w #[.int .i64 M.ad, .int .i64 M.kd, .int .i64 M.qt, .int .i64 M.x, .int .i64 M.y, .int .i64 M.pt, v] 24)
  have HA := Lib.hid (hs.below HB.out)
  obtain ⟨sa, sc, hv, h1, h2, _⟩ := id hs
  subst hv
  have HA0 := Lib.hid hs
  clear hs
  have RE := M.re
  unfold MB.rb1 MB.rb2 MB.rpt at RE
  have HK := Lib.hid (fun V => rOf_any M.kd V)
  unfold parts at HK
  obtain ⟨okP, hok⟩ : ∃ P, M.okBs = P := ⟨_, rfl⟩
  have HOK := Lib.hid hok
  obtain ⟨zI, hI⟩ : ∃ z, pI M.kd = z := ⟨_, rfl⟩
  obtain ⟨zQ, hQ⟩ : ∃ z, pQ M.kd = z := ⟨_, rfl⟩
  obtain ⟨zV', hV⟩ : ∃ z, pV M.kd = z := ⟨_, rfl⟩
  obtain ⟨zF, hF⟩ : ∃ z, pF M.kd = z := ⟨_, rfl⟩
  obtain ⟨zC, hC⟩ : ∃ z, pC M.kd = z := ⟨_, rfl⟩
  obtain ⟨E, hE⟩ : ∃ z, kE M.kd = z := ⟨_, rfl⟩
  obtain ⟨W1, hW1⟩ : ∃ z, wiB zQ M.qt 1 31 = z := ⟨_, rfl⟩
  obtain ⟨W2, hW2⟩ : ∃ z, wiB zV' M.x (-15) 15 = z := ⟨_, rfl⟩
  obtain ⟨W3, hW3⟩ : ∃ z, wiB zV' M.y (-15) 15 = z := ⟨_, rfl⟩
  obtain ⟨W4, hW4⟩ : ∃ z, wiB zC M.pt 1 63 = z := ⟨_, rfl⟩
  rw [hI, hQ, hV, hC, hE, hW1, hW2, hW3, hW4] at RE
  rw [hI, hQ, hV, hF, hC, hE] at HK
  have HW1 := Lib.hid (fun V => within_any zQ M.qt 1 31 V)
  have HW2 := Lib.hid (fun V => within_any zV' M.x (-15) 15 V)
  have HW3 := Lib.hid (fun V => within_any zV' M.y (-15) 15 V)
  have HW4 := Lib.hid (fun V => within_any zC M.pt 1 63 V)
  rw [hW1] at HW1
  rw [hW2] at HW2
  rw [hW3] at HW3
  rw [hW4] at HW4
  have HIv := Lib.hid hI
  have HCN : Hid (∀ V : World, Calls Tryz.prog 104 #[.int .i64 M.pt] V fun e w' => e = .returned (.int .i64 (cntP M.pt 6)) ∧ Below V.heap.size V w') := Lib.hid (fun V => (rCount_any M.pt V).mono (by rintro e w' ⟨rfl, rfl⟩; exact ⟨rfl, Below.refl _ _⟩))
  obtain ⟨C, hC2⟩ : ∃ C, cntP M.pt 6 = C := ⟨_, rfl⟩
  rw [hC2] at HCN RE
  clear hC2
  obtain ⟨R, hR⟩ : ∃ R, M.e = R := ⟨_, rfl⟩
  rw [hR] at RE ⊢
  have HRE := Lib.hid RE
  clear hI hQ hV hF hC hE hW1 hW2 hW3 hW4 hok hR RE
  have m1 := H1.out.cell 1 _ rfl
  go_enter Tryz.func61, Tryz.ntmps61
  go_wp2_with fail
  refine (HK.out _).mono ?_
  rintro e w1 ⟨rfl, b1⟩
  have b2 := (Below.refl w1.heap.size w1).alloc (Nat.le_refl _) (.cells #[.bool zI, .bool zQ, .bool zV', .bool zF, .bool zC] 67)
  have HP := Lib.hid (At.new w1 #[.bool zI, .bool zQ, .bool zV', .bool zF, .bool zC] 67)
  have HB := Lib.hid (chain (chain HB.out b1) b2)
  have H1 := Lib.hid ((H1.out.below b1).below b2)
  have HA := Lib.hid ((HA.out.below b1).below b2)
  clear b1 b2 m1 HK
  have m0 := H1.out.cell 0 _ rfl
  have m2 := H1.out.cell 2 _ rfl
  have m3 := H1.out.cell 3 _ rfl
  have m4 := H1.out.cell 4 _ rfl
  have m5 := H1.out.cell 5 _ rfl
  have m6 := H1.out.cell 6 _ rfl
  have p0 := HP.out.cell 0 _ rfl
  have p1 := HP.out.cell 1 _ rfl
  have p2 := HP.out.cell 2 _ rfl
  have p4 := HP.out.cell 4 _ rfl
  go_upto_region 2 with fail
  generalize w1.alloc (.cells #[.bool zI, .bool zQ, .bool zV', .bool zF, .bool zC] 67) = W5 at *
  generalize w1.heap.size = pB at *
  have T1 := Lib.hid trivial
  have T2 := Lib.hid trivial
  have T3 := Lib.hid trivial
  have T4 := Lib.hid trivial
  by_cases hE0 : E = 0
  case neg =>
    have t1 : (E != 0) = true := by simpa using hE0
    go_wp2_with (first
    | (go_at_call 103; clear T1; refine (HW1.out _).mono ?_; rintro e w2 ⟨rfl, rfl⟩)
    | (go_at_call 103; clear T2; refine (HW2.out _).mono ?_; rintro e w2 ⟨rfl, rfl⟩)
    | (go_at_call 103; clear T3; refine (HW3.out _).mono ?_; rintro e w2 ⟨rfl, rfl⟩)
    | (go_at_call 103; clear T4; refine (HW4.out _).mono ?_; rintro e w2 ⟨rfl, rfl⟩))
    go_ret
    exact ⟨by rw [HRE.out]; simp [*], HB.out⟩
  case pos =>
  have t1 : (E != 0) = false := by simp [hE0]
  by_cases ha1 : M.ad < 1
  case pos =>
    go_wp2_with (first
    | (go_at_call 103; clear T1; refine (HW1.out _).mono ?_; rintro e w2 ⟨rfl, rfl⟩)
    | (go_at_call 103; clear T2; refine (HW2.out _).mono ?_; rintro e w2 ⟨rfl, rfl⟩)
    | (go_at_call 103; clear T3; refine (HW3.out _).mono ?_; rintro e w2 ⟨rfl, rfl⟩)
    | (go_at_call 103; clear T4; refine (HW4.out _).mono ?_; rintro e w2 ⟨rfl, rfl⟩))
    go_ret
    exact ⟨by rw [HRE.out]; simp [*], HB.out⟩
  case neg =>
  by_cases ha2 : 33 < M.ad
  case pos =>
    go_wp2_with (first
    | (go_at_call 103; clear T1; refine (HW1.out _).mono ?_; rintro e w2 ⟨rfl, rfl⟩)
    | (go_at_call 103; clear T2; refine (HW2.out _).mono ?_; rintro e w2 ⟨rfl, rfl⟩)
    | (go_at_call 103; clear T3; refine (HW3.out _).mono ?_; rintro e w2 ⟨rfl, rfl⟩)
    | (go_at_call 103; clear T4; refine (HW4.out _).mono ?_; rintro e w2 ⟨rfl, rfl⟩))
    go_ret
    exact ⟨by rw [HRE.out]; simp [*], HB.out⟩
  case neg =>
  cases W1 with
  | false =>
    go_wp2_with (first
    | (go_at_call 103; clear T1; refine (HW1.out _).mono ?_; rintro e w2 ⟨rfl, rfl⟩)
    | (go_at_call 103; clear T2; refine (HW2.out _).mono ?_; rintro e w2 ⟨rfl, rfl⟩)
    | (go_at_call 103; clear T3; refine (HW3.out _).mono ?_; rintro e w2 ⟨rfl, rfl⟩)
    | (go_at_call 103; clear T4; refine (HW4.out _).mono ?_; rintro e w2 ⟨rfl, rfl⟩))
    go_ret
    exact ⟨by rw [HRE.out]; simp [*], HB.out⟩
  | true =>
  cases W2 with
  | false =>
    go_wp2_with (first
    | (go_at_call 103; clear T1; refine (HW1.out _).mono ?_; rintro e w2 ⟨rfl, rfl⟩)
    | (go_at_call 103; clear T2; refine (HW2.out _).mono ?_; rintro e w2 ⟨rfl, rfl⟩)
    | (go_at_call 103; clear T3; refine (HW3.out _).mono ?_; rintro e w2 ⟨rfl, rfl⟩)
    | (go_at_call 103; clear T4; refine (HW4.out _).mono ?_; rintro e w2 ⟨rfl, rfl⟩))
    go_ret
    exact ⟨by rw [HRE.out]; simp [*], HB.out⟩
  | true =>
  cases W3 with
  | false =>
    go_wp2_with (first
    | (go_at_call 103; clear T1; refine (HW1.out _).mono ?_; rintro e w2 ⟨rfl, rfl⟩)
    | (go_at_call 103; clear T2; refine (HW2.out _).mono ?_; rintro e w2 ⟨rfl, rfl⟩)
    | (go_at_call 103; clear T3; refine (HW3.out _).mono ?_; rintro e w2 ⟨rfl, rfl⟩)
    | (go_at_call 103; clear T4; refine (HW4.out _).mono ?_; rintro e w2 ⟨rfl, rfl⟩))
    go_ret
    exact ⟨by rw [HRE.out]; simp [*], HB.out⟩
  | true =>
  cases zI with
  | true =>
    by_cases hp : M.pt = 63
    case neg =>
      have u1 : (M.pt == 63) = false := by simpa using hp
      go_upto_region 7 with (first
    | (go_at_call 103; clear T1; refine (HW1.out _).mono ?_; rintro e w2 ⟨rfl, rfl⟩)
    | (go_at_call 103; clear T2; refine (HW2.out _).mono ?_; rintro e w2 ⟨rfl, rfl⟩)
    | (go_at_call 103; clear T3; refine (HW3.out _).mono ?_; rintro e w2 ⟨rfl, rfl⟩)
    | (go_at_call 103; clear T4; refine (HW4.out _).mono ?_; rintro e w2 ⟨rfl, rfl⟩))
      (try simp only [u1])
      go_quiet (fail)
      go_wp2_with fail
      go_ret
      exact ⟨by rw [HRE.out]; simp [*], below_drewN HB.out _⟩
    case pos =>
      have u1 : (M.pt == 63) = true := by simpa using hp
      clear hp
      go_upto_region 7 with (first
          | (go_at_call 103; clear T1; refine (HW1.out _).mono ?_; rintro e w2 ⟨rfl, rfl⟩)
          | (go_at_call 103; clear T2; refine (HW2.out _).mono ?_; rintro e w2 ⟨rfl, rfl⟩)
          | (go_at_call 103; clear T3; refine (HW3.out _).mono ?_; rintro e w2 ⟨rfl, rfl⟩)
          | (go_at_call 103; clear T4; refine (HW4.out _).mono ?_; rintro e w2 ⟨rfl, rfl⟩))
      (try simp only [u1])
      by_cases hm : (M.m : Int) = C
      case neg =>
        have t2 : ((M.m : Int) != C) = true := by simpa using hm
        clear hm
        have m5' : W5.cell? ⟨w.heap.size, 5, none⟩ = some (.int .i64 M.pt) := m5
        have m6' : W5.cell? ⟨w.heap.size, 6, none⟩ = some (.slice sa M.m sc) := m6
        have q5 := Past.cell m5'
        have q6 := Past.cell m6'
        refine wp_region_past (by kernel_rfl) (by kernel_rfl) ?_
        repeat (go_big_quiet_step ((go_at_call 104; exact past_call (HCN.out _))))
        refine wpQuiet_nil ?_
        rintro _ ⟨⟨w8, h8⟩, rfl⟩
        go_wp2_with fail
        go_ret
        exact ⟨by rw [HRE.out]; (first | (simp [*]; done) | (simp [*]; intro h; exfalso; omega)), chain HB.out h8⟩
      case pos =>
      have t2 : ((M.m : Int) != C) = false := by simp [hm]
      clear hm
      have m5' : W5.cell? ⟨w.heap.size, 5, none⟩ = some (.int .i64 M.pt) := m5
      have m6' : W5.cell? ⟨w.heap.size, 6, none⟩ = some (.slice sa M.m sc) := m6
      have q5 := Past.cell m5'
      have q6 := Past.cell m6'
      refine wp_region_past (by kernel_rfl) (by kernel_rfl) ?_
      repeat (go_big_quiet_step ((go_at_call 104; exact past_call (HCN.out _))))
      refine wpQuiet_nil ?_
      rintro _ ⟨⟨w8, h8⟩, rfl⟩
      have HB9 := Lib.hid (chain HB.out h8)
      have H19 := Lib.hid (H1.out.below h8)
      have HP9 := Lib.hid (HP.out.below h8)
      clear q5 q6 m5' m6'
      have HRE1 : Hid (R = if M.okBs then 0 else 2) := Lib.hid (by rw [HRE.out]; simp [*]; intro h; exfalso; omega)
      clear m0 m2 m3 m4 m5 m6 p0 p1 p2 p4 HA HW1 HW2 HW3 HW4 HCN HRE
      go_wp2_with fail
      go_loopw [6] (fun x wr => ∃ k : Nat, k ≤ M.m ∧ x = .int .i64 k ∧ Hid (∀ j, j < k → bE (M.dc j) (M.nn j) (M.r j) (M.l j) (pI M.kd) = 0) ∧ Hid (Below w.heap.size w wr) ∧ Hid (At wr w.heap.size #[.int .i64 M.ad, .int .i64 M.kd, .int .i64 M.qt, .int .i64 M.x, .int .i64 M.y, .int .i64 M.pt, .slice sa M.m sc] 24) ∧ Hid (At wr pB #[.bool true, .bool zQ, .bool zV', .bool zF, .bool zC] 67)) (fun x _ => M.m - (intOf x).toNat)
      case atStart => exact ⟨0, Nat.zero_le _, rfl, Lib.hid (fun j hj => by omega), HB9, H19, HP9⟩
      case round =>
        clear HB9 H19 HP9
        obtain ⟨k, hk, rfl, HO, HB9, H19, HP9⟩ := hrel
        have m6 := H19.out.cell 6 _ rfl
        by_cases hkm : k < M.m
        · have kb : (0 : Int) ≤ (k : Int) ∧ (k : Int) < (M.m : Int) := by omega
          have ek : IntKind.i64.wrap ((k : Int) + 1) = (k : Int) + 1 := IntWalk.i64_in _ (by have h2q := h2; unfold maxLen at h2q; omega)
          obtain ⟨a', c', ev, _, _, h3⟩ := HA0.out.below HB9.out
          cases ev
          rcases h3 with h0 | ⟨b, o, rfl, hI⟩
          · omega
          obtain ⟨d1, d2, hp, hn⟩ := hI k hkm
          go_upto_region 12 with fail
          have HCK := Lib.hid (rCheck_any (M.dc k) (M.q k) (M.nn k) (M.cc k) (M.r k) (M.l k) wr.drew true hn (hp.below (Below.refl _ _).drew))
          have HEK : Hid (bE (M.dc k) (M.nn k) (M.r k) (M.l k) (pI M.kd) = bE (M.dc k) (M.nn k) (M.r k) (M.l k) true) := Lib.hid (by rw [HIv.out])
          obtain ⟨F, hF⟩ : ∃ F, bE (M.dc k) (M.nn k) (M.r k) (M.l k) true = F := ⟨_, rfl⟩
          rw [hF] at HCK HEK
          have p0 := HP9.out.cell 0 _ rfl
          have lb := World.block_lt_of_cell? _ _ d1
          have lp := HP9.out.lt
          have lm := H19.out.lt
          clear hI hp hn hF
          by_cases hF0 : F = 0
          · have t3 : (F != 0) = false := by simp [hF0]
            go_region_held3 (fun w' => w'.cell? ⟨w.heap.size, 6, none⟩ = some (.slice (some ⟨b, o, none⟩) M.m sc) ∧ w'.cell? ⟨b, o + k * 2, none⟩ = some (.int .i64 (M.dc k)) ∧ w'.cell? ⟨b, o + k * 2 + 1, none⟩ = some (.slice (M.q k) (M.nn k) (M.cc k)) ∧ w'.cell? ⟨pB, 0, none⟩ = some (.bool true))
              (first | exact ⟨m6, d1, d2, p0⟩ | exact S2.out)
              (first | (go_at_call 105; refine HCK.out.mono ?_; rintro e w2 ⟨rfl, b2⟩; have S2 := Lib.hid (And.intro ((b2.cell (p := ⟨w.heap.size, 6, none⟩) lm).trans m6) (And.intro ((b2.cell (p := ⟨b, o + k * 2, none⟩) lb).trans d1) (And.intro ((b2.cell (p := ⟨b, o + k * 2 + 1, none⟩) lb).trans d2) ((b2.cell (p := ⟨pB, 0, none⟩) lp).trans p0)))); have HB2 := Lib.hid (chain (HB9.out.drew) b2); have H12 := Lib.hid ((H19.out.below (Below.refl _ _).drew).below b2); have HP2 := Lib.hid ((HP9.out.below (Below.refl _ _).drew).below b2); clear b2))
            clear m6 d1 d2 p0
            go_wp2_with fail
            go_roundw
            case rel => exact ⟨k + 1, by omega, by go_num, Lib.hid (fun j hj => by
              by_cases e : j = k
              · rw [e, HEK.out]; exact hF0
              · exact HO.out j (by omega)), HB2, H12, HP2⟩
            case measure => simp [intOf]; omega
          · have t3 : (F != 0) = true := by simpa using hF0
            have HR2 : Hid (R = 2) := Lib.hid (by rw [HRE1.out, if_neg (fun h : M.okBs => hF0 (by rw [← HEK.out]; exact h k hkm))])
            go_region_held3 (fun w' => w'.cell? ⟨w.heap.size, 6, none⟩ = some (.slice (some ⟨b, o, none⟩) M.m sc) ∧ w'.cell? ⟨b, o + k * 2, none⟩ = some (.int .i64 (M.dc k)) ∧ w'.cell? ⟨b, o + k * 2 + 1, none⟩ = some (.slice (M.q k) (M.nn k) (M.cc k)) ∧ w'.cell? ⟨pB, 0, none⟩ = some (.bool true))
              (first | exact ⟨m6, d1, d2, p0⟩ | exact S2.out)
              (first | (go_at_call 105; refine HCK.out.mono ?_; rintro e w2 ⟨rfl, b2⟩; have S2 := Lib.hid (And.intro ((b2.cell (p := ⟨w.heap.size, 6, none⟩) lm).trans m6) (And.intro ((b2.cell (p := ⟨b, o + k * 2, none⟩) lb).trans d1) (And.intro ((b2.cell (p := ⟨b, o + k * 2 + 1, none⟩) lb).trans d2) ((b2.cell (p := ⟨pB, 0, none⟩) lp).trans p0)))); have HB2 := Lib.hid (chain (HB9.out.drew) b2); clear b2))
            clear m6 d1 d2 p0
            go_wp2_with fail
            go_ret
            exact ⟨by rw [HR2.out]; rfl, HB2.out⟩
        · have kb : ¬ (k : Int) < (M.m : Int) := by omega
          have hk2 : k = M.m := by omega
          have HR2 : Hid (R = 0) := Lib.hid (by rw [HRE1.out, if_pos (show M.okBs from fun j hj => HO.out j (by omega))])
          clear hkm hk
          go_wp2_with fail
          go_ret
          exact ⟨by rw [HR2.out]; rfl, HB9.out⟩
  | false =>
    cases W4 with
    | false =>
      go_upto_region 7 with (first
    | (go_at_call 103; clear T1; refine (HW1.out _).mono ?_; rintro e w2 ⟨rfl, rfl⟩)
    | (go_at_call 103; clear T2; refine (HW2.out _).mono ?_; rintro e w2 ⟨rfl, rfl⟩)
    | (go_at_call 103; clear T3; refine (HW3.out _).mono ?_; rintro e w2 ⟨rfl, rfl⟩)
    | (go_at_call 103; clear T4; refine (HW4.out _).mono ?_; rintro e w2 ⟨rfl, rfl⟩))
      (try simp only [u1])
      go_quiet (fail)
      go_wp2_with fail
      go_ret
      exact ⟨by rw [HRE.out]; simp [*], below_drewN HB.out _⟩
    | true =>
      go_upto_region 7 with (first
          | (go_at_call 103; clear T1; refine (HW1.out _).mono ?_; rintro e w2 ⟨rfl, rfl⟩)
          | (go_at_call 103; clear T2; refine (HW2.out _).mono ?_; rintro e w2 ⟨rfl, rfl⟩)
          | (go_at_call 103; clear T3; refine (HW3.out _).mono ?_; rintro e w2 ⟨rfl, rfl⟩)
          | (go_at_call 103; clear T4; refine (HW4.out _).mono ?_; rintro e w2 ⟨rfl, rfl⟩))
      (try simp only [u1])
      by_cases hm : (M.m : Int) = C
      case neg =>
        have t2 : ((M.m : Int) != C) = true := by simpa using hm
        clear hm
        have m5' : W5.cell? ⟨w.heap.size, 5, none⟩ = some (.int .i64 M.pt) := m5
        have m6' : W5.cell? ⟨w.heap.size, 6, none⟩ = some (.slice sa M.m sc) := m6
        have q5 := Past.cell m5'
        have q6 := Past.cell m6'
        refine wp_region_past (by kernel_rfl) (by kernel_rfl) ?_
        repeat (go_big_quiet_step ((go_at_call 104; exact past_call (HCN.out _))))
        refine wpQuiet_nil ?_
        rintro _ ⟨⟨w8, h8⟩, rfl⟩
        go_wp2_with fail
        go_ret
        exact ⟨by rw [HRE.out]; (first | (simp [*]; done) | (simp [*]; intro h; exfalso; omega)), chain HB.out h8⟩
      case pos =>
      have t2 : ((M.m : Int) != C) = false := by simp [hm]
      clear hm
      have m5' : W5.cell? ⟨w.heap.size, 5, none⟩ = some (.int .i64 M.pt) := m5
      have m6' : W5.cell? ⟨w.heap.size, 6, none⟩ = some (.slice sa M.m sc) := m6
      have q5 := Past.cell m5'
      have q6 := Past.cell m6'
      refine wp_region_past (by kernel_rfl) (by kernel_rfl) ?_
      repeat (go_big_quiet_step ((go_at_call 104; exact past_call (HCN.out _))))
      refine wpQuiet_nil ?_
      rintro _ ⟨⟨w8, h8⟩, rfl⟩
      have HB9 := Lib.hid (chain HB.out h8)
      have H19 := Lib.hid (H1.out.below h8)
      have HP9 := Lib.hid (HP.out.below h8)
      clear q5 q6 m5' m6'
      have HRE1 : Hid (R = if M.okBs then 0 else 2) := Lib.hid (by rw [HRE.out]; simp [*]; intro h; exfalso; omega)
      clear m0 m2 m3 m4 m5 m6 p0 p1 p2 p4 HA HW1 HW2 HW3 HW4 HCN HRE
      go_wp2_with fail
      go_loopw [6] (fun x wr => ∃ k : Nat, k ≤ M.m ∧ x = .int .i64 k ∧ Hid (∀ j, j < k → bE (M.dc j) (M.nn j) (M.r j) (M.l j) (pI M.kd) = 0) ∧ Hid (Below w.heap.size w wr) ∧ Hid (At wr w.heap.size #[.int .i64 M.ad, .int .i64 M.kd, .int .i64 M.qt, .int .i64 M.x, .int .i64 M.y, .int .i64 M.pt, .slice sa M.m sc] 24) ∧ Hid (At wr pB #[.bool false, .bool zQ, .bool zV', .bool zF, .bool zC] 67)) (fun x _ => M.m - (intOf x).toNat)
      case atStart => exact ⟨0, Nat.zero_le _, rfl, Lib.hid (fun j hj => by omega), HB9, H19, HP9⟩
      case round =>
        clear HB9 H19 HP9
        obtain ⟨k, hk, rfl, HO, HB9, H19, HP9⟩ := hrel
        have m6 := H19.out.cell 6 _ rfl
        by_cases hkm : k < M.m
        · have kb : (0 : Int) ≤ (k : Int) ∧ (k : Int) < (M.m : Int) := by omega
          have ek : IntKind.i64.wrap ((k : Int) + 1) = (k : Int) + 1 := IntWalk.i64_in _ (by have h2q := h2; unfold maxLen at h2q; omega)
          obtain ⟨a', c', ev, _, _, h3⟩ := HA0.out.below HB9.out
          cases ev
          rcases h3 with h0 | ⟨b, o, rfl, hI⟩
          · omega
          obtain ⟨d1, d2, hp, hn⟩ := hI k hkm
          go_upto_region 12 with fail
          have HCK := Lib.hid (rCheck_any (M.dc k) (M.q k) (M.nn k) (M.cc k) (M.r k) (M.l k) wr.drew false hn (hp.below (Below.refl _ _).drew))
          have HEK : Hid (bE (M.dc k) (M.nn k) (M.r k) (M.l k) (pI M.kd) = bE (M.dc k) (M.nn k) (M.r k) (M.l k) false) := Lib.hid (by rw [HIv.out])
          obtain ⟨F, hF⟩ : ∃ F, bE (M.dc k) (M.nn k) (M.r k) (M.l k) false = F := ⟨_, rfl⟩
          rw [hF] at HCK HEK
          have p0 := HP9.out.cell 0 _ rfl
          have lb := World.block_lt_of_cell? _ _ d1
          have lp := HP9.out.lt
          have lm := H19.out.lt
          clear hI hp hn hF
          by_cases hF0 : F = 0
          · have t3 : (F != 0) = false := by simp [hF0]
            go_region_held3 (fun w' => w'.cell? ⟨w.heap.size, 6, none⟩ = some (.slice (some ⟨b, o, none⟩) M.m sc) ∧ w'.cell? ⟨b, o + k * 2, none⟩ = some (.int .i64 (M.dc k)) ∧ w'.cell? ⟨b, o + k * 2 + 1, none⟩ = some (.slice (M.q k) (M.nn k) (M.cc k)) ∧ w'.cell? ⟨pB, 0, none⟩ = some (.bool false))
              (first | exact ⟨m6, d1, d2, p0⟩ | exact S2.out)
              (first | (go_at_call 105; refine HCK.out.mono ?_; rintro e w2 ⟨rfl, b2⟩; have S2 := Lib.hid (And.intro ((b2.cell (p := ⟨w.heap.size, 6, none⟩) lm).trans m6) (And.intro ((b2.cell (p := ⟨b, o + k * 2, none⟩) lb).trans d1) (And.intro ((b2.cell (p := ⟨b, o + k * 2 + 1, none⟩) lb).trans d2) ((b2.cell (p := ⟨pB, 0, none⟩) lp).trans p0)))); have HB2 := Lib.hid (chain (HB9.out.drew) b2); have H12 := Lib.hid ((H19.out.below (Below.refl _ _).drew).below b2); have HP2 := Lib.hid ((HP9.out.below (Below.refl _ _).drew).below b2); clear b2))
            clear m6 d1 d2 p0
            go_wp2_with fail
            go_roundw
            case rel => exact ⟨k + 1, by omega, by go_num, Lib.hid (fun j hj => by
              by_cases e : j = k
              · rw [e, HEK.out]; exact hF0
              · exact HO.out j (by omega)), HB2, H12, HP2⟩
            case measure => simp [intOf]; omega
          · have t3 : (F != 0) = true := by simpa using hF0
            have HR2 : Hid (R = 2) := Lib.hid (by rw [HRE1.out, if_neg (fun h : M.okBs => hF0 (by rw [← HEK.out]; exact h k hkm))])
            go_region_held3 (fun w' => w'.cell? ⟨w.heap.size, 6, none⟩ = some (.slice (some ⟨b, o, none⟩) M.m sc) ∧ w'.cell? ⟨b, o + k * 2, none⟩ = some (.int .i64 (M.dc k)) ∧ w'.cell? ⟨b, o + k * 2 + 1, none⟩ = some (.slice (M.q k) (M.nn k) (M.cc k)) ∧ w'.cell? ⟨pB, 0, none⟩ = some (.bool false))
              (first | exact ⟨m6, d1, d2, p0⟩ | exact S2.out)
              (first | (go_at_call 105; refine HCK.out.mono ?_; rintro e w2 ⟨rfl, b2⟩; have S2 := Lib.hid (And.intro ((b2.cell (p := ⟨w.heap.size, 6, none⟩) lm).trans m6) (And.intro ((b2.cell (p := ⟨b, o + k * 2, none⟩) lb).trans d1) (And.intro ((b2.cell (p := ⟨b, o + k * 2 + 1, none⟩) lb).trans d2) ((b2.cell (p := ⟨pB, 0, none⟩) lp).trans p0)))); have HB2 := Lib.hid (chain (HB9.out.drew) b2); clear b2))
            clear m6 d1 d2 p0
            go_wp2_with fail
            go_ret
            exact ⟨by rw [HR2.out]; rfl, HB2.out⟩
        · have kb : ¬ (k : Int) < (M.m : Int) := by omega
          have hk2 : k = M.m := by omega
          have HR2 : Hid (R = 0) := Lib.hid (by rw [HRE1.out, if_pos (show M.okBs from fun j hj => HO.out j (by omega))])
          clear hkm hk
          go_wp2_with fail
          go_ret
          exact ⟨by rw [HR2.out]; rfl, HB9.out⟩
end
end Bk
end Go.Proofs.YtbmglemjfodfhaaGreat
