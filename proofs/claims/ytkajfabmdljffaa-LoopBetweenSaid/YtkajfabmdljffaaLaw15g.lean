/- LoopBetween. -/
import Derived.Test.YtkajfabmdljffaaLaw15f
import Derived.BigQuiet
import Derived.Lib.MinMax
namespace Go.Proofs.Ytkajfabmdljffaa
open Go.RowKit
namespace Lo

/-- what the two inner loops hold: between low and high lies whatever was seen yet. -/
def Seen (f : Nat → Int) (x y : Nat) (lo hi : Int) (v u : Nat) : Prop :=
  0 ≤ lo ∧ lo ≤ 255 ∧ 0 ≤ hi ∧ hi ≤ 255 ∧ ∀ u' v', u' < 8 → v' < 8 → x ≤ u' + 1 → u' ≤ x + 1 → y ≤ v' + 1 → v' ≤ y + 1 → (v' < v ∨ (v' = v ∧ u' < u)) → lo ≤ f (8 * v' + u') ∧ f (8 * v' + u') ≤ hi
theorem Seen.start {f : Nat → Int} (h : ∀ i, 0 ≤ f i ∧ f i ≤ 255) (x y : Nat) : Seen f x y (f (8 * y + x)) (f (8 * y + x)) (y - 1) 0 := by
  have := h (8 * y + x)
  exact ⟨this.1, this.2, this.1, this.2, fun u' v' h1 h2 h3 h4 h5 h6 h7 => by omega⟩
theorem Seen.row {f : Nat → Int} {x y : Nat} {lo hi : Int} {v : Nat} (h : Seen f x y lo hi v 0) : Seen f x y lo hi v (x - 1) :=
  ⟨h.1, h.2.1, h.2.2.1, h.2.2.2.1, fun u' v' h1 h2 h3 h4 h5 h6 h7 => h.2.2.2.2 u' v' h1 h2 h3 h4 h5 h6 (by omega)⟩
theorem Seen.down {f : Nat → Int} {x y : Nat} {lo hi : Int} {v u : Nat} (h : Seen f x y lo hi v u) (hu : u = min (x + 1) 7 + 1) : Seen f x y lo hi (v + 1) 0 :=
  ⟨h.1, h.2.1, h.2.2.1, h.2.2.2.1, fun u' v' h1 h2 h3 h4 h5 h6 h7 => h.2.2.2.2 u' v' h1 h2 h3 h4 h5 h6 (by omega)⟩
theorem Seen.step {f : Nat → Int} (hf : ∀ i, 0 ≤ f i ∧ f i ≤ 255) {x y : Nat} {lo hi : Int} {v u : Nat} (h : Seen f x y lo hi v u) : Seen f x y (min lo (f (8 * v + u))) (max hi (f (8 * v + u))) v (u + 1) := by
  have := hf (8 * v + u)
  obtain ⟨a, b, c, d, e⟩ := h
  refine ⟨by omega, by omega, by omega, by omega, fun u' v' h1 h2 h3 h4 h5 h6 h7 => ?_⟩
  by_cases q : v' = v ∧ u' = u
  · obtain ⟨rfl, rfl⟩ := q
    omega
  · have := e u' v' h1 h2 h3 h4 h5 h6 (by omega)
    omega
theorem Seen.end {f : Nat → Int} {x y : Nat} (hx : x < 8) (hy : y < 8) {lo hi : Int} {v : Nat} (h : Seen f x y lo hi v 0) (hv : v = min (y + 1) 7 + 1) : lo ≤ filt f (8 * y + x) ∧ filt f (8 * y + x) ≤ hi :=
  filt_between f x y hx hy lo hi fun u' v' h1 h2 h3 h4 h5 h6 => h.2.2.2.2 u' v' h1 h2 h3 h4 h5 h6 (by omega)

set_option maxRecDepth 100000 in
set_option maxHeartbeats 4000000 in
theorem between_short (v : Value) (a : Option Addr) (n cap : Nat) (hv : v = .slice a n cap) (f : Nat → Int) (w : World) (hs : Sl .u8 w v n f) (hf : ∀ i, 0 ≤ f i ∧ f i ≤ 255) (hn : n ≤ 64) :
    Calls Try.prog 13 #[v] w fun e w' => e = .returned (.bool true) ∧ Below w.heap.size w w' := by
  have SL := Lib.hid hs
  have hF := fun i => padF_bd (n := n) hf i
  obtain ⟨F, hFe⟩ : ∃ F, F = padF n f := ⟨_, rfl⟩
  rw [← hFe] at hF
  have HFe := Lib.hid hFe
  have HF := Lib.hid hF
  subst hv
  clear hs hf hF hFe
  go_enter Try.func13, Try.ntmps13
  go_wp2_with fail
  refine (known_true _).mono ?_
  rintro e w1 ⟨rfl, b1⟩
  have SL := Lib.hid (SL.out.below b1)
  have HB := Lib.hid b1
  have z1 := b1.size
  clear b1
  go_wp2_with fail
  refine (made_any _ n f _ SL.out hn).mono ?_
  rintro e w2 ⟨g1, c1, rfl, r1, r2, r3, r4, r5, b2⟩
  have HA : Hid (Arr w2 .u8 g1 64 F) := Lib.hid (by rw [HFe.out]; exact r5)
  have HB := Lib.hid (chain HB.out b2)
  clear r5 b2 SL
  go_wp2_with fail
  refine (Filter_any _ 64 F _ (Arr.sl r3 r4 r2 HA.out) HF.out).mono ?_
  rintro e w3 ⟨va, rfl, hR, b3⟩
  rw [show fE 64 = 0 from rfl]
  rw [show fN 64 = 64 from rfl] at hR
  rcases hR with ⟨h0, _⟩ | ⟨g2, c2, rfl, q1, q2, q3, q4, q5⟩
  · exact absurd h0 (by decide)
  have hA := HA.out.below b3 r2
  have HB := Lib.hid (chain HB.out b3)
  have k0 := (hA 0 (by omega)).1
  have k1 := (hA 7 (by omega)).1
  have k2 := (hA 56 (by omega)).1
  have k3 := (hA 63 (by omega)).1
  have l0 := (q5 0 (by omega)).1
  have l1 := (q5 7 (by omega)).1
  have l2 := (q5 56 (by omega)).1
  have l3 := (q5 63 (by omega)).1
  rw [show filt F 0 = F 0 from filt_corner F 0 0 (.inl rfl) (.inl rfl)] at l0
  rw [show filt F 7 = F 7 from filt_corner F 7 0 (.inr rfl) (.inl rfl)] at l1
  rw [show filt F 56 = F 56 from filt_corner F 0 7 (.inl rfl) (.inr rfl)] at l2
  rw [show filt F 63 = F 63 from filt_corner F 7 7 (.inr rfl) (.inr rfl)] at l3
  have HA := Lib.hid hA
  have HL := Lib.hid q5
  clear b3 hA q5
  go_wp2_with fail
  go_quiet (fail)
  clear k0 k1 k2 k3 l0 l1 l2 l3
  go_wp2_with fail
  go_loopw [7] (fun i wr => ∃ y : Nat, y ≤ 8 ∧ i = .int .i64 y ∧ ∃ m, wr = w3.drewN m) (fun i _ => 8 - (intOf i).toNat)
  case atStart => exact ⟨0, by omega, rfl, _, rfl⟩
  case round =>
    obtain ⟨y, hy, rfl, m1, rfl⟩ := hrel
    by_cases hy8 : y < 8
    · go_wp2_with fail
      go_loopw [8] (fun i wr => ∃ x : Nat, x ≤ 8 ∧ i = .int .i64 x ∧ ∃ m, wr = w3.drewN m) (fun i _ => 8 - (intOf i).toNat)
      case atStart => exact ⟨0, by omega, rfl, m1, rfl⟩
      case round =>
        obtain ⟨x, hx, rfl, m2, rfl⟩ := hrel
        by_cases hx8 : x < 8
        · have cA := (HA.out (8 * y + x) (by omega)).1
          go_wp2_with fail
          go_quiet (fail)
          go_wp2_with fail
          go_loopw [9, 10, 11] (fun l h v wr => ∃ v' : Nat, ∃ lo hi : Int, l = .int .u8 lo ∧ h = .int .u8 hi ∧ v = .int .i64 v' ∧ y - 1 ≤ v' ∧ v' ≤ min (y + 1) 7 + 1 ∧ Seen F x y lo hi v' 0 ∧ ∃ m, wr = w3.drewN m) (fun _ _ i _ => 9 - (intOf i).toNat)
          case atStart => exact ⟨y - 1, _, _, rfl, rfl, by congr 1; omega, Nat.le_refl _, by omega, Seen.start HF.out x y, _, rfl⟩
          case round =>
            obtain ⟨v', lo, hi, rfl, rfl, rfl, v1, v2, hS, m3, rfl⟩ := hrel
            by_cases hv : v' ≤ min (y + 1) 7
            · have dv : decide ((v' : Int) ≤ min ((y : Int) + 1) 7) = true := by simp only [decide_eq_true_eq]; omega
              go_wp2_with fail
              go_loopw [9, 10, 12] (fun l h u wr => ∃ u' : Nat, ∃ lo hi : Int, l = .int .u8 lo ∧ h = .int .u8 hi ∧ u = .int .i64 u' ∧ x - 1 ≤ u' ∧ u' ≤ min (x + 1) 7 + 1 ∧ Seen F x y lo hi v' u' ∧ ∃ m, wr = w3.drewN m) (fun _ _ i _ => 9 - (intOf i).toNat)
              case atStart => exact ⟨x - 1, _, _, rfl, rfl, by congr 1; omega, Nat.le_refl _, by omega, hS.row, _, rfl⟩
              case round =>
                obtain ⟨u', lo, hi, rfl, rfl, rfl, u1, u2, hS, m4, rfl⟩ := hrel
                by_cases hu : u' ≤ min (x + 1) 7
                · have du : decide ((u' : Int) ≤ min ((x : Int) + 1) 7) = true := by simp only [decide_eq_true_eq]; omega
                  have cU := (HA.out (8 * v' + u') (by omega)).1
                  have ub : (0 : Int) ≤ (u' : Int) ∧ (u' : Int) < 8 := by omega
                  have vb : (0 : Int) ≤ (v' : Int) ∧ (v' : Int) < 8 := by omega
                  have HS := Lib.hid (hS.step HF.out)
                  clear hS
                  go_wp2_with fail
                  go_roundw
                  case rel => exact ⟨u' + 1, _, _, rfl, rfl, by go_num, by omega, by omega, HS.out, _, rfl⟩
                  case measure => simp [intOf]; omega
                · have du : decide ((u' : Int) ≤ min ((x : Int) + 1) 7) = false := by simp only [decide_eq_false_iff_not]; omega
                  have HS := Lib.hid (hS.down (by omega))
                  clear hS
                  go_wp2_with fail
                  go_roundw
                  case rel => exact ⟨v' + 1, _, _, rfl, rfl, by go_num, by omega, by omega, HS.out, _, rfl⟩
                  case measure => simp [intOf]; omega
            · have dv : decide ((v' : Int) ≤ min ((y : Int) + 1) 7) = false := by simp only [decide_eq_false_iff_not]; omega
              have hE := hS.end hx8 hy8 (by omega)
              have cL := (HL.out (8 * y + x) (by omega)).1
              obtain ⟨z, hz⟩ : ∃ z, z = filt F (8 * y + x) := ⟨_, rfl⟩
              rw [← hz] at hE cL
              have d1 : decide (z < lo) = false := by simp only [decide_eq_false_iff_not]; omega
              have d2 : decide (hi < z) = false := by simp only [decide_eq_false_iff_not]; omega
              have xb : (0 : Int) ≤ (x : Int) ∧ (x : Int) < 8 := by omega
              have yb : (0 : Int) ≤ (y : Int) ∧ (y : Int) < 8 := by omega
              clear hS hE hz
              go_wp2_with fail
              go_roundw
              case rel => exact ⟨x + 1, by omega, by go_num, _, rfl⟩
              case measure => simp [intOf]; omega
        · go_wp2_with fail
          go_roundw
          case rel => exact ⟨y + 1, by omega, by go_num, _, rfl⟩
          case measure => simp [intOf]; omega
    · go_wp2_with fail
      go_ret
      exact ⟨rfl, below_drewN HB.out _⟩
theorem LoopBetween_walk (a : Option Addr) (n cap : Nat) (zs : List Int) (w : World) (w0 : IsRow .u8 w a n cap zs) :
    Calls Try.prog 13 #[.slice a n cap] w fun e w' => e = .returned (.bool true) ∧ Below w.heap.size w w' := by
  by_cases h : n ≤ 64
  · have hbd := byte_bd w0
    obtain ⟨hs, _⟩ := w0.sl
    exact between_short _ a n cap rfl _ w hs hbd h
  · clear w0
    go_enter Try.func13, Try.ntmps13
    go_wp2_with (go_at_call 11; refine (known_true _).mono ?_; rintro e w1 ⟨rfl, hw⟩)
    go_ret
    exact ⟨rfl, hw⟩
end Lo
end Go.Proofs.Ytkajfabmdljffaa
