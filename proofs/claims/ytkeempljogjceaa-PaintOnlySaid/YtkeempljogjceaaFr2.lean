/- frame: what is in a list; corners. -/
import Derived.Test.YtkeempljogjceaaFr
namespace Go.Proofs.Ytkeempljogjceaa
open Go.RowKit
namespace Fr

/-- the first place of x among k numbers, or -1. -/
def ixF (f : Nat → Int) (x : Int) : Nat → Int
  | 0 => -1
  | k + 1 => if ixF f x k ≠ -1 then ixF f x k else if x = f k then (k : Int) else -1
theorem ixF_stay {f : Nat → Int} {x : Int} {k : Nat} (h : ixF f x k ≠ -1) : ∀ n, k ≤ n → ixF f x n = ixF f x k
  | 0, hn => by obtain rfl : k = 0 := by omega
                rfl
  | n + 1, hn => by
    by_cases e : k = n + 1
    · subst e; rfl
    · have ih := ixF_stay h n (by omega)
      rw [ixF, ih, if_pos h]
theorem ixF_hit {f : Nat → Int} {x : Int} {k n : Nat} (h : ixF f x k = -1) (hx : x = f k) (hk : k < n) : ixF f x n = k := by
  have h1 : ixF f x (k + 1) = k := by rw [ixF, if_neg (by omega), if_pos hx]
  rw [ixF_stay (by omega) n (by omega : k + 1 ≤ n), h1]
theorem Index_any (v : Value) (n : Nat) (f : Nat → Int) (x : Int) (w : World) (hs : Sl .i64 w v n f) (hn : n ≤ 1000000) :
    Calls Try.prog 71 #[v, .int .i64 x] w fun e w' => e = .returned (.int .i64 (ixF f x n)) ∧ w = w' := by
  obtain ⟨a, c, rfl, _, _, d⟩ := hs
  rcases d with ⟨rfl, _⟩ | ⟨b, o, rfl, _, i1⟩
  · go_enter Try.func71, Try.ntmps71
    go_wp2
    refine wp_loop_rounds 1 ?_
    rw [rounds_succ]
    go_wp2
    go_ret
    exact ⟨rfl, rfl⟩
  · have H := Lib.hid i1
    clear i1
    go_enter Try.func71, Try.ntmps71
    go_wp2
    go_loopw [8] (fun i wr => ∃ k : Nat, k ≤ n ∧ i = .int .i64 k ∧ ixF f x k = -1 ∧ wr = w) (fun i _ => n - (intOf i).toNat)
    case atStart => exact ⟨0, by omega, rfl, rfl, rfl⟩
    case round =>
      obtain ⟨k, hk, rfl, hix, hw⟩ := hrel
      obtain rfl := hw.symm
      have IX := Lib.hid hix
      clear hix hw
      by_cases hkn : k < n
      · have e1 := H.out k hkn
        have b1 : (0 : Int) ≤ (k : Int) ∧ (k : Int) < (n : Int) := by omega
        by_cases hx : x = f k
        · have t1 : (x == f k) = true := by simp [hx]
          have E : Hid (ixF f x n = k) := Lib.hid (ixF_hit IX.out hx hkn)
          clear hx
          go_wp2_with fail
          go_ret
          exact ⟨by rw [E.out]; rfl, rfl⟩
        · have t1 : (x == f k) = false := by simp [hx]
          have E : Hid (ixF f x (k + 1) = -1) := Lib.hid (by rw [ixF, if_neg (by have := IX.out; omega), if_neg hx])
          clear hx
          go_wp2_with fail
          go_roundw
          case rel => exact ⟨k + 1, by omega, by go_num, E.out, by trivial⟩
          case measure => simp [intOf]; omega
      · obtain rfl : k = n := by omega
        go_wp2_with fail
        go_ret
        exact ⟨by rw [IX.out]; rfl, rfl⟩
theorem Contains_any (v : Value) (n : Nat) (f : Nat → Int) (x : Int) (w : World) (hs : Sl .i64 w v n f) (hn : n ≤ 1000000) :
    Calls Try.prog 58 #[v, .int .i64 x] w fun e w' => e = .returned (.bool (decide (0 ≤ ixF f x n))) ∧ w = w' := by
  have HS := Lib.hid hs
  obtain ⟨a, c, rfl, _, _, d⟩ := hs
  clear d
  go_enter Try.func58, Try.ntmps58
  go_wp2_with (go_at_call 71; refine (Index_any _ n f x _ HS.out hn).mono ?_; rintro e w1 ⟨rfl, rfl⟩)
  go_ret
  exact ⟨rfl, rfl⟩
/-- is that a group of the format? -/
def inG (n g : Int) : Bool := decide (0 ≤ ixF (grF n) g (grN n))
theorem ixF_no {f : Nat → Int} {x : Int} : ∀ n, (∀ k, k < n → x ≠ f k) → ixF f x n = -1
  | 0, _ => rfl
  | n + 1, h => by rw [ixF, ixF_no n fun k hk => h k (by omega), if_neg (by omega), if_neg (h n (by omega))]
theorem ixF_yes {f : Nat → Int} {x : Int} {k : Nat} (hx : x = f k) : ∀ n, k < n → 0 ≤ ixF f x n
  | 0, h => by omega
  | n + 1, h => by
    rw [ixF]
    by_cases h1 : ixF f x n = -1
    · rw [if_neg (by omega)]
      by_cases h2 : x = f n
      · rw [if_pos h2]; omega
      · have hk : k < n := by
          rcases Nat.lt_or_ge k n with h3 | h3
          · exact h3
          · obtain rfl : k = n := by omega
            exact absurd hx h2
        have := ixF_yes hx n hk
        omega
    · rw [if_pos h1]
      by_cases h2 : k < n
      · exact ixF_yes hx n h2
      · clear h
        have : ∀ m, -1 ≤ ixF f x m := by
          intro m
          induction m with
          | zero => simp [ixF]
          | succ m ih => rw [ixF]; split <;> (try split) <;> omega
        have := this n
        omega
theorem inG_0 (g : Int) : inG 0 g = decide (g = 1 ∨ g = 3 ∨ g = 5) := by
  unfold inG grN
  rw [if_neg (by decide), if_pos rfl]
  by_cases h : g = 1 ∨ g = 3 ∨ g = 5
  · rcases h with rfl | rfl | rfl <;> decide
  · have := ixF_no (f := grF 0) (x := g) 3 (fun k hk => by unfold grF; omega)
    rw [this]
    simp [h]
theorem inG_1 (g : Int) : inG 1 g = decide (1 ≤ g ∧ g ≤ 12) := by
  unfold inG grN
  rw [if_pos rfl]
  by_cases h : 1 ≤ g ∧ g ≤ 12
  · have := ixF_yes (f := grF 1) (x := g) (k := (g - 1).toNat) (by unfold grF; omega) 12 (by omega)
    simp [h, this]
  · have := ixF_no (f := grF 1) (x := g) 12 (fun k hk => by unfold grF; omega)
    rw [this]
    simp [h]

theorem Groups_any (n : Int) (w : World) : Calls Try.prog 57 #[.int .i64 n] w fun e w' => ∃ v, e = .returned (.tuple #[v, .int .i64 (fE n)]) ∧ Res .i64 w.heap.size w' v (grN n) (grF n) ∧ Below w.heap.size w w' := by
  by_cases h : n = 0 ∨ n = 1
  · rcases h with rfl | rfl
    · go_enter Try.func57, Try.ntmps57
      go_wp2_with (first
        | (go_at_call 60; refine (there_any 0 _).mono ?_; rintro e w1 ⟨rfl, rfl⟩; rw [show fmt 0 = true from rfl])
        | (go_at_call 70; refine (groups_0 _).mono ?_; rintro e w1 ⟨v, rfl, hR, hB⟩))
      go_ret2
      exact ⟨_, rfl, hR, hB⟩
    · go_enter Try.func57, Try.ntmps57
      go_wp2_with (first
        | (go_at_call 60; refine (there_any 1 _).mono ?_; rintro e w1 ⟨rfl, rfl⟩; rw [show fmt 1 = true from rfl])
        | (go_at_call 70; refine (groups_1 _).mono ?_; rintro e w1 ⟨v, rfl, hR, hB⟩))
      go_ret2
      exact ⟨_, rfl, hR, hB⟩
  · have E : Hid (fmt n = false) := Lib.hid (by unfold fmt; simp [h])
    have E2 : Hid (grN n = 0 ∧ fE n = 3) := Lib.hid (by unfold grN fE; rw [if_neg (by omega), if_neg (by omega), if_neg h]; exact ⟨rfl, rfl⟩)
    clear h
    go_enter Try.func57, Try.ntmps57
    go_wp2_with (go_at_call 60; refine (there_any n _).mono ?_; rintro e w1 ⟨rfl, rfl⟩; rw [E.out])
    go_ret2
    exact ⟨_, by rw [E2.out.2]; rfl, .inl ⟨E2.out.1, rfl⟩, Below.refl _ _⟩
/-- why a macroblock is nowhere; where it is. -/
def cE (n g a : Int) : Int := if n = 0 ∨ n = 1 then (if inG n g = true then (if a < 1 ∨ 33 < a then 13 else 0) else 8) else 3
def cX (n g a : Int) : Int := if cE n g a = 0 then (a - 1) % 11 * 16 + (if n = 1 then (g - 1) % 2 * 176 else 0) else 0
def cY (n g a : Int) : Int := if cE n g a = 0 then (a - 1) / 11 * 16 + (g - 1) / 2 * 48 else 0
theorem corner_0 (g a : Int) (hg : 1 ≤ g ∧ g ≤ 12) (ha : 1 ≤ a ∧ a ≤ 33) (w : World) : Calls Try.prog 59 #[.int .i64 0, .int .i64 g, .int .i64 a] w fun e w' => e = .returned (.tuple #[.int .i64 ((a - 1) % 11 * 16), .int .i64 ((a - 1) / 11 * 16 + (g - 1) / 2 * 48)]) ∧ w = w' := by
  go_enter Try.func59, Try.ntmps59
  go_wp2
  go_ret2
  exact ⟨rfl, rfl⟩
theorem corner_1 (g a : Int) (hg : 1 ≤ g ∧ g ≤ 12) (ha : 1 ≤ a ∧ a ≤ 33) (w : World) : Calls Try.prog 59 #[.int .i64 1, .int .i64 g, .int .i64 a] w fun e w' => e = .returned (.tuple #[.int .i64 ((a - 1) % 11 * 16 + (g - 1) % 2 * 176), .int .i64 ((a - 1) / 11 * 16 + (g - 1) / 2 * 48)]) ∧ w = w' := by
  go_enter Try.func59, Try.ntmps59
  go_wp2
  go_ret2
  exact ⟨rfl, rfl⟩
end Fr
end Go.Proofs.Ytkeempljogjceaa
