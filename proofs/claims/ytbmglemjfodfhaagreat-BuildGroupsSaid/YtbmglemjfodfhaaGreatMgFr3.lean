/- frame: sizes, groups, corners. | frame: what is in a list; corners. | frame: Corner. -/
import Derived.Test.YtbmglemjfodfhaaGreatMgArrB
import Derived.Test.YtbmglemjfodfhaaGreatMgSlices
import Derived.Deep.AppendLies
set_option linter.unusedVariables false
set_option linter.unusedSimpArgs false
namespace Go.Proofs.YtbmglemjfodfhaaGreat
open Go.RowKit
namespace Fr
def fmt (n : Int) : Bool := decide (n = 0 ∨ n = 1)
def wV (n : Int) : Int := if n = 1 then 352 else if n = 0 then 176 else 0
def hV (n : Int) : Int := if n = 1 then 288 else if n = 0 then 144 else 0
def zV (n : Int) : Int := if n = 1 then 152064 else if n = 0 then 38016 else 0
def fE (n : Int) : Int := if n = 0 ∨ n = 1 then 0 else 3
theorem eq_tests (n : Int) (h : ¬ (n = 0 ∨ n = 1)) : (n == 0) = false ∧ (n == 1) = false := by constructor <;> simp <;> omega
theorem wide_any (n : Int) (w : World) : Calls Tryz.prog 119 #[.int .i64 n] w fun e w' => e = .returned (.int .i64 (wV n)) ∧ w = w' := by
  by_cases h : n = 0 ∨ n = 1
  · rcases h with rfl | rfl
    · go_enter Tryz.func119, Tryz.ntmps119
      go_wp2
      go_ret
      exact ⟨rfl, rfl⟩
    · go_enter Tryz.func119, Tryz.ntmps119
      go_wp2
      go_ret
      exact ⟨rfl, rfl⟩
  · obtain ⟨t0, t1⟩ := eq_tests n h
    have E : Hid (wV n = 0) := Lib.hid (by unfold wV; rw [if_neg (by omega), if_neg (by omega)])
    clear h
    go_enter Tryz.func119, Tryz.ntmps119
    go_wp2
    go_ret
    exact ⟨by rw [E.out]; rfl, rfl⟩
theorem high_any (n : Int) (w : World) : Calls Tryz.prog 120 #[.int .i64 n] w fun e w' => e = .returned (.int .i64 (hV n)) ∧ w = w' := by
  by_cases h : n = 0 ∨ n = 1
  · rcases h with rfl | rfl
    · go_enter Tryz.func120, Tryz.ntmps120
      go_wp2_with (go_at_call 119; refine (wide_any 0 _).mono ?_; rintro e w1 ⟨rfl, rfl⟩; rw [show wV 0 = 176 from rfl])
      go_ret
      exact ⟨rfl, rfl⟩
    · go_enter Tryz.func120, Tryz.ntmps120
      go_wp2_with (go_at_call 119; refine (wide_any 1 _).mono ?_; rintro e w1 ⟨rfl, rfl⟩; rw [show wV 1 = 352 from rfl])
      go_ret
      exact ⟨rfl, rfl⟩
  · have E : Hid (hV n = 0) := Lib.hid (by unfold hV; rw [if_neg (by omega), if_neg (by omega)])
    have E2 : Hid (wV n = 0) := Lib.hid (by unfold wV; rw [if_neg (by omega), if_neg (by omega)])
    clear h
    go_enter Tryz.func120, Tryz.ntmps120
    go_wp2_with (go_at_call 119; refine (wide_any n _).mono ?_; rintro e w1 ⟨rfl, rfl⟩; rw [E2.out])
    go_ret
    exact ⟨by rw [E.out]; rfl, rfl⟩
theorem there_any (n : Int) (w : World) : Calls Tryz.prog 118 #[.int .i64 n] w fun e w' => e = .returned (.bool (fmt n)) ∧ w = w' := by
  by_cases h : n = 0 ∨ n = 1
  · have E : Hid (fmt n = true) := Lib.hid (by unfold fmt; simp [h])
    obtain ⟨x, hx, hp⟩ : ∃ x, wV n = x ∧ 0 < x := by rcases h with rfl | rfl <;> exact ⟨_, rfl, by decide⟩
    have HX := Lib.hid hx
    clear h hx
    go_enter Tryz.func118, Tryz.ntmps118
    go_wp2_with (go_at_call 119; refine (wide_any n _).mono ?_; rintro e w1 ⟨rfl, rfl⟩; rw [HX.out])
    go_ret
    exact ⟨by rw [E.out]; simp, rfl⟩
  · have E : Hid (fmt n = false) := Lib.hid (by unfold fmt; simp [h])
    have E2 : Hid (wV n = 0) := Lib.hid (by unfold wV; rw [if_neg (by omega), if_neg (by omega)])
    clear h
    go_enter Tryz.func118, Tryz.ntmps118
    go_wp2_with (go_at_call 119; refine (wide_any n _).mono ?_; rintro e w1 ⟨rfl, rfl⟩; rw [E2.out])
    go_ret
    exact ⟨by rw [E.out]; rfl, rfl⟩
theorem results_tmp4 {fn : Func} {t u v x : Tmp} (h : fn.results = #[.tmp t, .tmp u, .tmp v, .tmp x]) (tmps : Array Value) (P : Program) (w : World) :
    (results fn tmps).run P w = .ok (.tuple #[tmps.getD t undef, tmps.getD u undef, tmps.getD v undef, tmps.getD x undef]) w := by
  simp [results, h]
theorem Size_any (n : Int) (w : World) : Calls Tryz.prog 73 #[.int .i64 n] w fun e w' => e = .returned (.tuple #[.int .i64 (wV n), .int .i64 (hV n), .int .i64 (zV n), .int .i64 (fE n)]) ∧ w = w' := by
  by_cases h : n = 0 ∨ n = 1
  · rcases h with rfl | rfl
    · go_enter Tryz.func73, Tryz.ntmps73
      go_wp2_with (first
        | (go_at_call 118; refine (there_any 0 _).mono ?_; rintro e w1 ⟨rfl, rfl⟩; rw [show fmt 0 = true from rfl])
        | (go_at_call 119; refine (wide_any 0 _).mono ?_; rintro e w1 ⟨rfl, rfl⟩; rw [show wV 0 = 176 from rfl])
        | (go_at_call 120; refine (high_any 0 _).mono ?_; rintro e w1 ⟨rfl, rfl⟩; rw [show hV 0 = 144 from rfl]))
      refine bodyPost_ret (results_tmp4 rfl _ _ _) rfl ?_
      exact ⟨rfl, rfl⟩
    · go_enter Tryz.func73, Tryz.ntmps73
      go_wp2_with (first
        | (go_at_call 118; refine (there_any 1 _).mono ?_; rintro e w1 ⟨rfl, rfl⟩; rw [show fmt 1 = true from rfl])
        | (go_at_call 119; refine (wide_any 1 _).mono ?_; rintro e w1 ⟨rfl, rfl⟩; rw [show wV 1 = 352 from rfl])
        | (go_at_call 120; refine (high_any 1 _).mono ?_; rintro e w1 ⟨rfl, rfl⟩; rw [show hV 1 = 288 from rfl]))
      refine bodyPost_ret (results_tmp4 rfl _ _ _) rfl ?_
      exact ⟨rfl, rfl⟩
  · have E : Hid (fmt n = false) := Lib.hid (by unfold fmt; simp [h])
    have E2 : Hid (wV n = 0 ∧ hV n = 0 ∧ zV n = 0 ∧ fE n = 3) := Lib.hid (by unfold wV hV zV fE; rw [if_neg (by omega), if_neg (by omega), if_neg (by omega), if_neg (by omega), if_neg (by omega), if_neg (by omega), if_neg h]; exact ⟨rfl, rfl, rfl, rfl⟩)
    clear h
    go_enter Tryz.func73, Tryz.ntmps73
    go_wp2_with (go_at_call 118; refine (there_any n _).mono ?_; rintro e w1 ⟨rfl, rfl⟩; rw [E.out])
    refine bodyPost_ret (results_tmp4 rfl _ _ _) rfl ?_
    exact ⟨by rw [E2.out.1, E2.out.2.1, E2.out.2.2.1, E2.out.2.2.2]; rfl, rfl⟩
def grN (n : Int) : Nat := if n = 1 then 12 else if n = 0 then 3 else 0
def grF (n : Int) (k : Nat) : Int := 1 + (k : Int) * (2 - n)
theorem step_any (n : Int) (hn : 0 ≤ n ∧ n ≤ 1) (w : World) : Calls Tryz.prog 172 #[.int .i64 n] w fun e w' => e = .returned (.int .i64 (2 - n)) ∧ w = w' := by
  go_enter Tryz.func172, Tryz.ntmps172
  go_wp2
  go_ret
  exact ⟨rfl, rfl⟩
set_option maxRecDepth 100000 in
theorem groups_0 (w : World) : Calls Tryz.prog 157 #[.int .i64 0] w fun e w' => ∃ v, e = .returned v ∧ Res .i64 w.heap.size w' v 3 (grF 0) ∧ Below w.heap.size w w' := by
  obtain ⟨i0, hi, hz0, hz1, hz2⟩ := info_parts info_int
  go_enter Tryz.func157, Tryz.ntmps157
  go_wp2_with fail
  go_loopw [2, 4] (fun v i wr => ∃ k : Nat, k ≤ 3 ∧ i = .int .i64 (grF 0 k) ∧ wr.ownsRow w.heap.size 3 1 v k ((List.range k).map fun j => .int .i64 (grF 0 j)) ∧ Below w.heap.size w wr) (fun _ i _ => 20 - (intOf i).toNat)
  case atStart => exact ⟨0, by omega, rfl, World.ownsRow_nil _ _ _ _, Below.refl _ _⟩
  case round =>
    obtain ⟨k, hk, rfl, hown, hB⟩ := hrel
    obtain ⟨x, hx⟩ : ∃ x, grF 0 k = x := ⟨_, rfl⟩
    have hx1 : x ≤ 1 + 2 * (k : Int) ∧ 1 + 2 * (k : Int) ≤ x := by unfold grF at hx; omega
    rw [hx]
    have OWN := Lib.hid hown
    have HB := Lib.hid hB
    have HX := Lib.hid hx
    have sz := hB.size
    clear hown hB hx
    by_cases hkn : k < 3
    · have xb : x ≤ 5 ∧ 1 ≤ x := by omega
      go_wp2_with (at_builtin; refine wpList_append_own _ rfl _ _ 87 rfl w.heap.size 3 i0 (.int .i64 0) 1 8 Tryz.underlying87 hi hz0 hz1 hz2 rfl (by decide) _ _ _ rfl (OWN.out.alloc _) ⟨wr.heap.size, 0, none⟩ 1 1 [.int .i64 x] rfl rfl (cell_one_new _ _ _) (by simp [Value.oneCell']) (by unfold maxLen; omega) (by omega) (by simp; omega) ?_; intro v' w1 hown2 hgr hnil)
      have hB1 : Below w.heap.size w w1 := (HB.out.alloc sz (.cells #[.int .i64 x] 3)).grown hgr (by simp; omega) (fun q hq => (OWN.out.lt q hq).1)
      have hown3 : w1.ownsRow w.heap.size 3 1 v' (k + 1) ((List.range (k + 1)).map fun j => .int .i64 (grF 0 j)) := by rw [← range_snoc, HX.out]; exact hown2
      have OW3 := Lib.hid hown3
      have HB1 := Lib.hid hB1
      clear hown2 hgr hnil hown3 hB1
      go_wp2_with (go_at_call 172; refine (step_any 0 (by decide) _).mono ?_; rintro e w2 ⟨rfl, rfl⟩)
      go_roundw
      case rel => exact ⟨k + 1, by omega, by unfold grF; go_num, OW3.out, HB1.out⟩
      case measure => simp [intOf]; omega
    · have hke : k = 3 := by omega
      have xb : 5 < x := by omega
      go_wp2_with fail
      go_ret
      subst hke
      exact ⟨_, rfl, Res.of_own OWN.out, HB.out⟩
set_option maxRecDepth 100000 in
theorem groups_1 (w : World) : Calls Tryz.prog 157 #[.int .i64 1] w fun e w' => ∃ v, e = .returned v ∧ Res .i64 w.heap.size w' v 12 (grF 1) ∧ Below w.heap.size w w' := by
  obtain ⟨i0, hi, hz0, hz1, hz2⟩ := info_parts info_int
  go_enter Tryz.func157, Tryz.ntmps157
  go_wp2_with fail
  go_loopw [2, 4] (fun v i wr => ∃ k : Nat, k ≤ 12 ∧ i = .int .i64 (grF 1 k) ∧ wr.ownsRow w.heap.size 3 1 v k ((List.range k).map fun j => .int .i64 (grF 1 j)) ∧ Below w.heap.size w wr) (fun _ i _ => 20 - (intOf i).toNat)
  case atStart => exact ⟨0, by omega, rfl, World.ownsRow_nil _ _ _ _, Below.refl _ _⟩
  case round =>
    obtain ⟨k, hk, rfl, hown, hB⟩ := hrel
    obtain ⟨x, hx⟩ : ∃ x, grF 1 k = x := ⟨_, rfl⟩
    have hx1 : x ≤ 1 + 1 * (k : Int) ∧ 1 + 1 * (k : Int) ≤ x := by unfold grF at hx; omega
    rw [hx]
    have OWN := Lib.hid hown
    have HB := Lib.hid hB
    have HX := Lib.hid hx
    have sz := hB.size
    clear hown hB hx
    by_cases hkn : k < 12
    · have xb : x ≤ 12 ∧ 1 ≤ x := by omega
      go_wp2_with (at_builtin; refine wpList_append_own _ rfl _ _ 87 rfl w.heap.size 3 i0 (.int .i64 0) 1 8 Tryz.underlying87 hi hz0 hz1 hz2 rfl (by decide) _ _ _ rfl (OWN.out.alloc _) ⟨wr.heap.size, 0, none⟩ 1 1 [.int .i64 x] rfl rfl (cell_one_new _ _ _) (by simp [Value.oneCell']) (by unfold maxLen; omega) (by omega) (by simp; omega) ?_; intro v' w1 hown2 hgr hnil)
      have hB1 : Below w.heap.size w w1 := (HB.out.alloc sz (.cells #[.int .i64 x] 3)).grown hgr (by simp; omega) (fun q hq => (OWN.out.lt q hq).1)
      have hown3 : w1.ownsRow w.heap.size 3 1 v' (k + 1) ((List.range (k + 1)).map fun j => .int .i64 (grF 1 j)) := by rw [← range_snoc, HX.out]; exact hown2
      have OW3 := Lib.hid hown3
      have HB1 := Lib.hid hB1
      clear hown2 hgr hnil hown3 hB1
      go_wp2_with (go_at_call 172; refine (step_any 1 (by decide) _).mono ?_; rintro e w2 ⟨rfl, rfl⟩)
      go_roundw
      case rel => exact ⟨k + 1, by omega, by unfold grF; go_num, OW3.out, HB1.out⟩
      case measure => simp [intOf]; omega
    · have hke : k = 12 := by omega
      have xb : 12 < x := by omega
      go_wp2_with fail
      go_ret
      subst hke
      exact ⟨_, rfl, Res.of_own OWN.out, HB.out⟩
end Fr
end Go.Proofs.YtbmglemjfodfhaaGreat
namespace Go.Proofs.YtbmglemjfodfhaaGreat
open Go.RowKit
namespace Fr
def ixF (f : Nat → Int) (x : Int) : Nat → Int
  | 0 => -1
  | k + 1 => if ixF f x k ≠ -1 then ixF f x k else if x = f k then (k : Int) else -1
theorem ixF_stay {f : Nat → Int} {x : Int} {k : Nat} (h : ixF f x k ≠ -1) : ∀ n, k ≤ n → ixF f x n = ixF f x k
  | 0, hn => by obtain rfl : k = 0 := by omega
                rfl
  | n + 1, hn => by
    by_cases e : k = n + 1
    · subst e; rfl
    · have ih := ixF_stay h n (by omega)
      rw [ixF, ih, if_pos h]
theorem ixF_hit {f : Nat → Int} {x : Int} {k n : Nat} (h : ixF f x k = -1) (hx : x = f k) (hk : k < n) : ixF f x n = k := by
  have h1 : ixF f x (k + 1) = k := by rw [ixF, if_neg (by omega), if_pos hx]
  rw [ixF_stay (by omega) n (by omega : k + 1 ≤ n), h1]
theorem Index_any (v : Value) (n : Nat) (f : Nat → Int) (x : Int) (w : World) (hs : Sl .i64 w v n f) (hn : n ≤ 1000000) :
    Calls Tryz.prog 156 #[v, .int .i64 x] w fun e w' => e = .returned (.int .i64 (ixF f x n)) ∧ w = w' := by
  obtain ⟨a, c, rfl, _, _, d⟩ := hs
  rcases d with ⟨rfl, _⟩ | ⟨b, o, rfl, _, i1⟩
  · go_enter Tryz.func156, Tryz.ntmps156
    go_wp2
    refine wp_loop_rounds 1 ?_
    rw [rounds_succ]
    go_wp2
    go_ret
    exact ⟨rfl, rfl⟩
  · have H := Lib.hid i1
    clear i1
    go_enter Tryz.func156, Tryz.ntmps156
    go_wp2
    go_loopw [8] (fun i wr => ∃ k : Nat, k ≤ n ∧ i = .int .i64 k ∧ ixF f x k = -1 ∧ wr = w) (fun i _ => n - (intOf i).toNat)
    case atStart => exact ⟨0, by omega, rfl, rfl, rfl⟩
    case round =>
      obtain ⟨k, hk, rfl, hix, hw⟩ := hrel
      obtain rfl := hw.symm
      have IX := Lib.hid hix
      clear hix hw
      by_cases hkn : k < n
      · have e1 := H.out k hkn
        have b1 : (0 : Int) ≤ (k : Int) ∧ (k : Int) < (n : Int) := by omega
        by_cases hx : x = f k
        · have t1 : (x == f k) = true := by simp [hx]
          have E : Hid (ixF f x n = k) := Lib.hid (ixF_hit IX.out hx hkn)
          clear hx
          go_wp2_with fail
          go_ret
          exact ⟨by rw [E.out]; rfl, rfl⟩
        · have t1 : (x == f k) = false := by simp [hx]
          have E : Hid (ixF f x (k + 1) = -1) := Lib.hid (by rw [ixF, if_neg (by have := IX.out; omega), if_neg hx])
          clear hx
          go_wp2_with fail
          go_roundw
          case rel => exact ⟨k + 1, by omega, by go_num, E.out, by trivial⟩
          case measure => simp [intOf]; omega
      · obtain rfl : k = n := by omega
        go_wp2_with fail
        go_ret
        exact ⟨by rw [IX.out]; rfl, rfl⟩
theorem Contains_any (v : Value) (n : Nat) (f : Nat → Int) (x : Int) (w : World) (hs : Sl .i64 w v n f) (hn : n ≤ 1000000) :
    Calls Tryz.prog 131 #[v, .int .i64 x] w fun e w' => e = .returned (.bool (decide (0 ≤ ixF f x n))) ∧ w = w' := by
  have HS := Lib.hid hs
  obtain ⟨a, c, rfl, _, _, d⟩ := hs
  clear d
  go_enter Tryz.func131, Tryz.ntmps131
  go_wp2_with (go_at_call 156; refine (Index_any _ n f x _ HS.out hn).mono ?_; rintro e w1 ⟨rfl, rfl⟩)
  go_ret
  exact ⟨rfl, rfl⟩
def inG (n g : Int) : Bool := decide (0 ≤ ixF (grF n) g (grN n))
theorem ixF_no {f : Nat → Int} {x : Int} : ∀ n, (∀ k, k < n → x ≠ f k) → ixF f x n = -1
  | 0, _ => rfl
  | n + 1, h => by rw [ixF, ixF_no n fun k hk => h k (by omega), if_neg (by omega), if_neg (h n (by omega))]
theorem ixF_yes {f : Nat → Int} {x : Int} {k : Nat} (hx : x = f k) : ∀ n, k < n → 0 ≤ ixF f x n
  | 0, h => by omega
  | n + 1, h => by
    rw [ixF]
    by_cases h1 : ixF f x n = -1
    · rw [if_neg (by omega)]
      by_cases h2 : x = f n
      · rw [if_pos h2]; omega
      · have hk : k < n := by
          rcases Nat.lt_or_ge k n with h3 | h3
          · exact h3
          · obtain rfl : k = n := by omega
            exact absurd hx h2
        have := ixF_yes hx n hk
        omega
    · rw [if_pos h1]
      by_cases h2 : k < n
      · exact ixF_yes hx n h2
      · clear h
        have : ∀ m, -1 ≤ ixF f x m := by
          intro m
          induction m with
          | zero => simp [ixF]
          | succ m ih => rw [ixF]; split <;> (try split) <;> omega
        have := this n
        omega
theorem inG_0 (g : Int) : inG 0 g = decide (g = 1 ∨ g = 3 ∨ g = 5) := by
  unfold inG grN
  rw [if_neg (by decide), if_pos rfl]
  by_cases h : g = 1 ∨ g = 3 ∨ g = 5
  · rcases h with rfl | rfl | rfl <;> decide
  · have := ixF_no (f := grF 0) (x := g) 3 (fun k hk => by unfold grF; omega)
    rw [this]
    simp [h]
theorem inG_1 (g : Int) : inG 1 g = decide (1 ≤ g ∧ g ≤ 12) := by
  unfold inG grN
  rw [if_pos rfl]
  by_cases h : 1 ≤ g ∧ g ≤ 12
  · have := ixF_yes (f := grF 1) (x := g) (k := (g - 1).toNat) (by unfold grF; omega) 12 (by omega)
    simp [h, this]
  · have := ixF_no (f := grF 1) (x := g) 12 (fun k hk => by unfold grF; omega)
    rw [this]
    simp [h]
theorem Groups_any (n : Int) (w : World) : Calls Tryz.prog 130 #[.int .i64 n] w fun e w' => ∃ v, e = .returned (.tuple #[v, .int .i64 (fE n)]) ∧ Res .i64 w.heap.size w' v (grN n) (grF n) ∧ Below w.heap.size w w' := by
  by_cases h : n = 0 ∨ n = 1
  · rcases h with rfl | rfl
    · go_enter Tryz.func130, Tryz.ntmps130
      go_wp2_with (first
        | (go_at_call 118; refine (there_any 0 _).mono ?_; rintro e w1 ⟨rfl, rfl⟩; rw [show fmt 0 = true from rfl])
        | (go_at_call 157; refine (groups_0 _).mono ?_; rintro e w1 ⟨v, rfl, hR, hB⟩))
      go_ret2
      exact ⟨_, rfl, hR, hB⟩
    · go_enter Tryz.func130, Tryz.ntmps130
      go_wp2_with (first
        | (go_at_call 118; refine (there_any 1 _).mono ?_; rintro e w1 ⟨rfl, rfl⟩; rw [show fmt 1 = true from rfl])
        | (go_at_call 157; refine (groups_1 _).mono ?_; rintro e w1 ⟨v, rfl, hR, hB⟩))
      go_ret2
      exact ⟨_, rfl, hR, hB⟩
  · have E : Hid (fmt n = false) := Lib.hid (by unfold fmt; simp [h])
    have E2 : Hid (grN n = 0 ∧ fE n = 3) := Lib.hid (by unfold grN fE; rw [if_neg (by omega), if_neg (by omega), if_neg h]; exact ⟨rfl, rfl⟩)
    clear h
    go_enter Tryz.func130, Tryz.ntmps130
    go_wp2_with (go_at_call 118; refine (there_any n _).mono ?_; rintro e w1 ⟨rfl, rfl⟩; rw [E.out])
    go_ret2
    exact ⟨_, by rw [E2.out.2]; rfl, .inl ⟨E2.out.1, rfl⟩, Below.refl _ _⟩
def cE (n g a : Int) : Int := if n = 0 ∨ n = 1 then (if inG n g = true then (if a < 1 ∨ 33 < a then 13 else 0) else 8) else 3
def cX (n g a : Int) : Int := if cE n g a = 0 then (a - 1) % 11 * 16 + (if n = 1 then (g - 1) % 2 * 176 else 0) else 0
def cY (n g a : Int) : Int := if cE n g a = 0 then (a - 1) / 11 * 16 + (g - 1) / 2 * 48 else 0
theorem corner_0 (g a : Int) (hg : 1 ≤ g ∧ g ≤ 12) (ha : 1 ≤ a ∧ a ≤ 33) (w : World) : Calls Tryz.prog 132 #[.int .i64 0, .int .i64 g, .int .i64 a] w fun e w' => e = .returned (.tuple #[.int .i64 ((a - 1) % 11 * 16), .int .i64 ((a - 1) / 11 * 16 + (g - 1) / 2 * 48)]) ∧ w = w' := by
  go_enter Tryz.func132, Tryz.ntmps132
  go_wp2
  go_ret2
  exact ⟨rfl, rfl⟩
theorem corner_1 (g a : Int) (hg : 1 ≤ g ∧ g ≤ 12) (ha : 1 ≤ a ∧ a ≤ 33) (w : World) : Calls Tryz.prog 132 #[.int .i64 1, .int .i64 g, .int .i64 a] w fun e w' => e = .returned (.tuple #[.int .i64 ((a - 1) % 11 * 16 + (g - 1) % 2 * 176), .int .i64 ((a - 1) / 11 * 16 + (g - 1) / 2 * 48)]) ∧ w = w' := by
  go_enter Tryz.func132, Tryz.ntmps132
  go_wp2
  go_ret2
  exact ⟨rfl, rfl⟩
end Fr
end Go.Proofs.YtbmglemjfodfhaaGreat
namespace Go.Proofs.YtbmglemjfodfhaaGreat
open Go.RowKit
namespace Fr
theorem inG_bd0 {g : Int} (h : inG 0 g = true) : 1 ≤ g ∧ g ≤ 12 := by rw [inG_0] at h; simp at h; omega
theorem inG_bd1 {g : Int} (h : inG 1 g = true) : 1 ≤ g ∧ g ≤ 12 := by rw [inG_1] at h; simp at h; omega
theorem Corner_0 (g a : Int) (w : World) : Calls Tryz.prog 86 #[.int .i64 0, .int .i64 g, .int .i64 a] w fun e w' => e = .returned (.tuple #[.int .i64 (cX 0 g a), .int .i64 (cY 0 g a), .int .i64 (cE 0 g a)]) ∧ Below w.heap.size w w' := by
  by_cases hg : inG 0 g = true
  · have gb := inG_bd0 hg
    have HG := Lib.hid hg
    have HC : Hid (decide (0 ≤ ixF (grF 0) g 3) = true) := Lib.hid hg
    clear hg
    by_cases ha : a < 1 ∨ 33 < a
    · have E : Hid (cE 0 g a = 13) := Lib.hid (by unfold cE; rw [if_pos (by decide), if_pos HG.out, if_pos ha])
      have E2 : Hid (cX 0 g a = 0 ∧ cY 0 g a = 0) := Lib.hid (by unfold cX cY; rw [E.out]; exact ⟨rfl, rfl⟩)
      rcases ha with ha | ha
      · go_enter Tryz.func86, Tryz.ntmps86
        go_wp2_with (first
          | (go_at_call 130; refine (Groups_any 0 _).mono ?_; rintro e w1 ⟨v, rfl, hR, hB⟩; rw [show fE 0 = 0 from rfl]; have HR := Lib.hid hR; have HB := Lib.hid hB; clear hR hB)
          | (go_at_call 131; refine (Contains_any _ 3 (grF 0) g _ HR.out.sl (by omega)).mono ?_; rintro e w2 ⟨rfl, rfl⟩; rw [HC.out]))
        go_ret3
        exact ⟨by rw [E.out, E2.out.1, E2.out.2]; rfl, HB.out⟩
      · have ha0 : ¬ a < 1 := by omega
        go_enter Tryz.func86, Tryz.ntmps86
        go_wp2_with (first
          | (go_at_call 130; refine (Groups_any 0 _).mono ?_; rintro e w1 ⟨v, rfl, hR, hB⟩; rw [show fE 0 = 0 from rfl]; have HR := Lib.hid hR; have HB := Lib.hid hB; clear hR hB)
          | (go_at_call 131; refine (Contains_any _ 3 (grF 0) g _ HR.out.sl (by omega)).mono ?_; rintro e w2 ⟨rfl, rfl⟩; rw [HC.out]))
        go_ret3
        exact ⟨by rw [E.out, E2.out.1, E2.out.2]; rfl, HB.out⟩
    · have ab : 1 ≤ a ∧ a ≤ 33 := by omega
      have E : Hid (cE 0 g a = 0) := Lib.hid (by unfold cE; rw [if_pos (by decide), if_pos HG.out, if_neg ha])
      have E2 : Hid (cX 0 g a = (a - 1) % 11 * 16 ∧ cY 0 g a = (a - 1) / 11 * 16 + (g - 1) / 2 * 48) := Lib.hid (by unfold cX cY; rw [E.out, if_pos rfl, if_pos rfl]; rw [if_neg (by decide)]; exact ⟨by omega, rfl⟩)
      clear ha
      go_enter Tryz.func86, Tryz.ntmps86
      go_wp2_with (first
        | (go_at_call 130; refine (Groups_any 0 _).mono ?_; rintro e w1 ⟨v, rfl, hR, hB⟩; rw [show fE 0 = 0 from rfl]; have HR := Lib.hid hR; have HB := Lib.hid hB; clear hR hB)
        | (go_at_call 131; refine (Contains_any _ 3 (grF 0) g _ HR.out.sl (by omega)).mono ?_; rintro e w2 ⟨rfl, rfl⟩; rw [HC.out])
        | (go_at_call 132; refine (corner_0 g a gb ab _).mono ?_; rintro e w3 ⟨rfl, rfl⟩))
      go_ret3
      exact ⟨by rw [E.out, E2.out.1, E2.out.2]; rfl, HB.out⟩
  · have hg' : inG 0 g = false := by simpa using hg
    have HC : Hid (decide (0 ≤ ixF (grF 0) g 3) = false) := Lib.hid hg'
    have E : Hid (cE 0 g a = 8) := Lib.hid (by unfold cE; rw [if_pos (by decide), if_neg hg])
    have E2 : Hid (cX 0 g a = 0 ∧ cY 0 g a = 0) := Lib.hid (by unfold cX cY; rw [E.out]; exact ⟨rfl, rfl⟩)
    clear hg hg'
    go_enter Tryz.func86, Tryz.ntmps86
    go_wp2_with (first
      | (go_at_call 130; refine (Groups_any 0 _).mono ?_; rintro e w1 ⟨v, rfl, hR, hB⟩; rw [show fE 0 = 0 from rfl]; have HR := Lib.hid hR; have HB := Lib.hid hB; clear hR hB)
      | (go_at_call 131; refine (Contains_any _ 3 (grF 0) g _ HR.out.sl (by omega)).mono ?_; rintro e w2 ⟨rfl, rfl⟩; rw [HC.out]))
    go_ret3
    exact ⟨by rw [E.out, E2.out.1, E2.out.2]; rfl, HB.out⟩
theorem Corner_1 (g a : Int) (w : World) : Calls Tryz.prog 86 #[.int .i64 1, .int .i64 g, .int .i64 a] w fun e w' => e = .returned (.tuple #[.int .i64 (cX 1 g a), .int .i64 (cY 1 g a), .int .i64 (cE 1 g a)]) ∧ Below w.heap.size w w' := by
  by_cases hg : inG 1 g = true
  · have gb := inG_bd1 hg
    have HG := Lib.hid hg
    have HC : Hid (decide (0 ≤ ixF (grF 1) g 12) = true) := Lib.hid hg
    clear hg
    by_cases ha : a < 1 ∨ 33 < a
    · have E : Hid (cE 1 g a = 13) := Lib.hid (by unfold cE; rw [if_pos (by decide), if_pos HG.out, if_pos ha])
      have E2 : Hid (cX 1 g a = 0 ∧ cY 1 g a = 0) := Lib.hid (by unfold cX cY; rw [E.out]; exact ⟨rfl, rfl⟩)
      rcases ha with ha | ha
      · go_enter Tryz.func86, Tryz.ntmps86
        go_wp2_with (first
          | (go_at_call 130; refine (Groups_any 1 _).mono ?_; rintro e w1 ⟨v, rfl, hR, hB⟩; rw [show fE 1 = 0 from rfl]; have HR := Lib.hid hR; have HB := Lib.hid hB; clear hR hB)
          | (go_at_call 131; refine (Contains_any _ 12 (grF 1) g _ HR.out.sl (by omega)).mono ?_; rintro e w2 ⟨rfl, rfl⟩; rw [HC.out]))
        go_ret3
        exact ⟨by rw [E.out, E2.out.1, E2.out.2]; rfl, HB.out⟩
      · have ha0 : ¬ a < 1 := by omega
        go_enter Tryz.func86, Tryz.ntmps86
        go_wp2_with (first
          | (go_at_call 130; refine (Groups_any 1 _).mono ?_; rintro e w1 ⟨v, rfl, hR, hB⟩; rw [show fE 1 = 0 from rfl]; have HR := Lib.hid hR; have HB := Lib.hid hB; clear hR hB)
          | (go_at_call 131; refine (Contains_any _ 12 (grF 1) g _ HR.out.sl (by omega)).mono ?_; rintro e w2 ⟨rfl, rfl⟩; rw [HC.out]))
        go_ret3
        exact ⟨by rw [E.out, E2.out.1, E2.out.2]; rfl, HB.out⟩
    · have ab : 1 ≤ a ∧ a ≤ 33 := by omega
      have E : Hid (cE 1 g a = 0) := Lib.hid (by unfold cE; rw [if_pos (by decide), if_pos HG.out, if_neg ha])
      have E2 : Hid (cX 1 g a = (a - 1) % 11 * 16 + (g - 1) % 2 * 176 ∧ cY 1 g a = (a - 1) / 11 * 16 + (g - 1) / 2 * 48) := Lib.hid (by unfold cX cY; rw [E.out, if_pos rfl, if_pos rfl]; rw [if_pos rfl]; exact ⟨rfl, rfl⟩)
      clear ha
      go_enter Tryz.func86, Tryz.ntmps86
      go_wp2_with (first
        | (go_at_call 130; refine (Groups_any 1 _).mono ?_; rintro e w1 ⟨v, rfl, hR, hB⟩; rw [show fE 1 = 0 from rfl]; have HR := Lib.hid hR; have HB := Lib.hid hB; clear hR hB)
        | (go_at_call 131; refine (Contains_any _ 12 (grF 1) g _ HR.out.sl (by omega)).mono ?_; rintro e w2 ⟨rfl, rfl⟩; rw [HC.out])
        | (go_at_call 132; refine (corner_1 g a gb ab _).mono ?_; rintro e w3 ⟨rfl, rfl⟩))
      go_ret3
      exact ⟨by rw [E.out, E2.out.1, E2.out.2]; rfl, HB.out⟩
  · have hg' : inG 1 g = false := by simpa using hg
    have HC : Hid (decide (0 ≤ ixF (grF 1) g 12) = false) := Lib.hid hg'
    have E : Hid (cE 1 g a = 8) := Lib.hid (by unfold cE; rw [if_pos (by decide), if_neg hg])
    have E2 : Hid (cX 1 g a = 0 ∧ cY 1 g a = 0) := Lib.hid (by unfold cX cY; rw [E.out]; exact ⟨rfl, rfl⟩)
    clear hg hg'
    go_enter Tryz.func86, Tryz.ntmps86
    go_wp2_with (first
      | (go_at_call 130; refine (Groups_any 1 _).mono ?_; rintro e w1 ⟨v, rfl, hR, hB⟩; rw [show fE 1 = 0 from rfl]; have HR := Lib.hid hR; have HB := Lib.hid hB; clear hR hB)
      | (go_at_call 131; refine (Contains_any _ 12 (grF 1) g _ HR.out.sl (by omega)).mono ?_; rintro e w2 ⟨rfl, rfl⟩; rw [HC.out]))
    go_ret3
    exact ⟨by rw [E.out, E2.out.1, E2.out.2]; rfl, HB.out⟩
theorem Corner_any (n g a : Int) (w : World) : Calls Tryz.prog 86 #[.int .i64 n, .int .i64 g, .int .i64 a] w fun e w' => e = .returned (.tuple #[.int .i64 (cX n g a), .int .i64 (cY n g a), .int .i64 (cE n g a)]) ∧ Below w.heap.size w w' := by
  by_cases h : n = 0 ∨ n = 1
  · rcases h with rfl | rfl
    · exact Corner_0 g a w
    · exact Corner_1 g a w
  · have E : Hid (cE n g a = 3 ∧ fE n = 3) := Lib.hid ⟨by unfold cE; rw [if_neg h], by unfold fE; rw [if_neg h]⟩
    have E2 : Hid (cX n g a = 0 ∧ cY n g a = 0) := Lib.hid (by unfold cX cY; rw [E.out.1]; exact ⟨rfl, rfl⟩)
    clear h
    go_enter Tryz.func86, Tryz.ntmps86
    go_wp2_with (go_at_call 130; refine (Groups_any n _).mono ?_; rintro e w1 ⟨v, rfl, hR, hB⟩; rw [E.out.2]; have HB := Lib.hid hB; clear hR hB)
    go_ret3
    exact ⟨by rw [E.out.1, E2.out.1, E2.out.2]; rfl, HB.out⟩
end Fr
end Go.Proofs.YtbmglemjfodfhaaGreat
