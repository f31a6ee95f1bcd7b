/- frame: sizes, groups, corners. -/
import Derived.Test.YtkeempljogjceaaSlices
import Derived.Test.YtkeempljogjceaaArrB
import Derived.Deep.AppendLies
namespace Go.Proofs.Ytkeempljogjceaa
open Go.RowKit
namespace Fr

/-- the format is one; its width, height, bytes. -/
def fmt (n : Int) : Bool := decide (n = 0 ∨ n = 1)
def wV (n : Int) : Int := if n = 1 then 352 else if n = 0 then 176 else 0
def hV (n : Int) : Int := if n = 1 then 288 else if n = 0 then 144 else 0
def zV (n : Int) : Int := if n = 1 then 152064 else if n = 0 then 38016 else 0
def fE (n : Int) : Int := if n = 0 ∨ n = 1 then 0 else 3
theorem eq_tests (n : Int) (h : ¬ (n = 0 ∨ n = 1)) : (n == 0) = false ∧ (n == 1) = false := by constructor <;> simp <;> omega

theorem wide_any (n : Int) (w : World) : Calls Try.prog 61 #[.int .i64 n] w fun e w' => e = .returned (.int .i64 (wV n)) ∧ w = w' := by
  by_cases h : n = 0 ∨ n = 1
  · rcases h with rfl | rfl
    · go_enter Try.func61, Try.ntmps61
      go_wp2
      go_ret
      exact ⟨rfl, rfl⟩
    · go_enter Try.func61, Try.ntmps61
      go_wp2
      go_ret
      exact ⟨rfl, rfl⟩
  · obtain ⟨t0, t1⟩ := eq_tests n h
    have E : Hid (wV n = 0) := Lib.hid (by unfold wV; rw [if_neg (by omega), if_neg (by omega)])
    clear h
    go_enter Try.func61, Try.ntmps61
    go_wp2
    go_ret
    exact ⟨by rw [E.out]; rfl, rfl⟩
theorem high_any (n : Int) (w : World) : Calls Try.prog 62 #[.int .i64 n] w fun e w' => e = .returned (.int .i64 (hV n)) ∧ w = w' := by
  by_cases h : n = 0 ∨ n = 1
  · rcases h with rfl | rfl
    · go_enter Try.func62, Try.ntmps62
      go_wp2_with (go_at_call 61; refine (wide_any 0 _).mono ?_; rintro e w1 ⟨rfl, rfl⟩; rw [show wV 0 = 176 from rfl])
      go_ret
      exact ⟨rfl, rfl⟩
    · go_enter Try.func62, Try.ntmps62
      go_wp2_with (go_at_call 61; refine (wide_any 1 _).mono ?_; rintro e w1 ⟨rfl, rfl⟩; rw [show wV 1 = 352 from rfl])
      go_ret
      exact ⟨rfl, rfl⟩
  · have E : Hid (hV n = 0) := Lib.hid (by unfold hV; rw [if_neg (by omega), if_neg (by omega)])
    have E2 : Hid (wV n = 0) := Lib.hid (by unfold wV; rw [if_neg (by omega), if_neg (by omega)])
    clear h
    go_enter Try.func62, Try.ntmps62
    go_wp2_with (go_at_call 61; refine (wide_any n _).mono ?_; rintro e w1 ⟨rfl, rfl⟩; rw [E2.out])
    go_ret
    exact ⟨by rw [E.out]; rfl, rfl⟩
theorem there_any (n : Int) (w : World) : Calls Try.prog 60 #[.int .i64 n] w fun e w' => e = .returned (.bool (fmt n)) ∧ w = w' := by
  by_cases h : n = 0 ∨ n = 1
  · have E : Hid (fmt n = true) := Lib.hid (by unfold fmt; simp [h])
    obtain ⟨x, hx, hp⟩ : ∃ x, wV n = x ∧ 0 < x := by rcases h with rfl | rfl <;> exact ⟨_, rfl, by decide⟩
    have HX := Lib.hid hx
    clear h hx
    go_enter Try.func60, Try.ntmps60
    go_wp2_with (go_at_call 61; refine (wide_any n _).mono ?_; rintro e w1 ⟨rfl, rfl⟩; rw [HX.out])
    go_ret
    exact ⟨by rw [E.out]; simp, rfl⟩
  · have E : Hid (fmt n = false) := Lib.hid (by unfold fmt; simp [h])
    have E2 : Hid (wV n = 0) := Lib.hid (by unfold wV; rw [if_neg (by omega), if_neg (by omega)])
    clear h
    go_enter Try.func60, Try.ntmps60
    go_wp2_with (go_at_call 61; refine (wide_any n _).mono ?_; rintro e w1 ⟨rfl, rfl⟩; rw [E2.out])
    go_ret
    exact ⟨by rw [E.out]; rfl, rfl⟩
theorem results_tmp4 {fn : Func} {t u v x : Tmp} (h : fn.results = #[.tmp t, .tmp u, .tmp v, .tmp x]) (tmps : Array Value) (P : Program) (w : World) :
    (results fn tmps).run P w = .ok (.tuple #[tmps.getD t undef, tmps.getD u undef, tmps.getD v undef, tmps.getD x undef]) w := by
  simp [results, h]
theorem Size_any (n : Int) (w : World) : Calls Try.prog 44 #[.int .i64 n] w fun e w' => e = .returned (.tuple #[.int .i64 (wV n), .int .i64 (hV n), .int .i64 (zV n), .int .i64 (fE n)]) ∧ w = w' := by
  by_cases h : n = 0 ∨ n = 1
  · rcases h with rfl | rfl
    · go_enter Try.func44, Try.ntmps44
      go_wp2_with (first
        | (go_at_call 60; refine (there_any 0 _).mono ?_; rintro e w1 ⟨rfl, rfl⟩; rw [show fmt 0 = true from rfl])
        | (go_at_call 61; refine (wide_any 0 _).mono ?_; rintro e w1 ⟨rfl, rfl⟩; rw [show wV 0 = 176 from rfl])
        | (go_at_call 62; refine (high_any 0 _).mono ?_; rintro e w1 ⟨rfl, rfl⟩; rw [show hV 0 = 144 from rfl]))
      refine bodyPost_ret (results_tmp4 rfl _ _ _) rfl ?_
      exact ⟨rfl, rfl⟩
    · go_enter Try.func44, Try.ntmps44
      go_wp2_with (first
        | (go_at_call 60; refine (there_any 1 _).mono ?_; rintro e w1 ⟨rfl, rfl⟩; rw [show fmt 1 = true from rfl])
        | (go_at_call 61; refine (wide_any 1 _).mono ?_; rintro e w1 ⟨rfl, rfl⟩; rw [show wV 1 = 352 from rfl])
        | (go_at_call 62; refine (high_any 1 _).mono ?_; rintro e w1 ⟨rfl, rfl⟩; rw [show hV 1 = 288 from rfl]))
      refine bodyPost_ret (results_tmp4 rfl _ _ _) rfl ?_
      exact ⟨rfl, rfl⟩
  · have E : Hid (fmt n = false) := Lib.hid (by unfold fmt; simp [h])
    have E2 : Hid (wV n = 0 ∧ hV n = 0 ∧ zV n = 0 ∧ fE n = 3) := Lib.hid (by unfold wV hV zV fE; rw [if_neg (by omega), if_neg (by omega), if_neg (by omega), if_neg (by omega), if_neg (by omega), if_neg (by omega), if_neg h]; exact ⟨rfl, rfl, rfl, rfl⟩)
    clear h
    go_enter Try.func44, Try.ntmps44
    go_wp2_with (go_at_call 60; refine (there_any n _).mono ?_; rintro e w1 ⟨rfl, rfl⟩; rw [E.out])
    refine bodyPost_ret (results_tmp4 rfl _ _ _) rfl ?_
    exact ⟨by rw [E2.out.1, E2.out.2.1, E2.out.2.2.1, E2.out.2.2.2]; rfl, rfl⟩

/-- the groups: how many, which. -/
def grN (n : Int) : Nat := if n = 1 then 12 else if n = 0 then 3 else 0
def grF (n : Int) (k : Nat) : Int := 1 + (k : Int) * (2 - n)
theorem step_any (n : Int) (hn : 0 ≤ n ∧ n ≤ 1) (w : World) : Calls Try.prog 76 #[.int .i64 n] w fun e w' => e = .returned (.int .i64 (2 - n)) ∧ w = w' := by
  go_enter Try.func76, Try.ntmps76
  go_wp2
  go_ret
  exact ⟨rfl, rfl⟩

set_option maxRecDepth 100000 in
theorem groups_0 (w : World) : Calls Try.prog 70 #[.int .i64 0] w fun e w' => ∃ v, e = .returned v ∧ Res .i64 w.heap.size w' v 3 (grF 0) ∧ Below w.heap.size w w' := by
  obtain ⟨i0, hi, hz0, hz1, hz2⟩ := info_parts info_int
  go_enter Try.func70, Try.ntmps70
  go_wp2_with fail
  go_loopw [2, 4] (fun v i wr => ∃ k : Nat, k ≤ 3 ∧ i = .int .i64 (grF 0 k) ∧ wr.ownsRow w.heap.size 3 1 v k ((List.range k).map fun j => .int .i64 (grF 0 j)) ∧ Below w.heap.size w wr) (fun _ i _ => 20 - (intOf i).toNat)
  case atStart => exact ⟨0, by omega, rfl, World.ownsRow_nil _ _ _ _, Below.refl _ _⟩
  case round =>
    obtain ⟨k, hk, rfl, hown, hB⟩ := hrel
    obtain ⟨x, hx⟩ : ∃ x, grF 0 k = x := ⟨_, rfl⟩
    have hx1 : x ≤ 1 + 2 * (k : Int) ∧ 1 + 2 * (k : Int) ≤ x := by unfold grF at hx; omega
    rw [hx]
    have OWN := Lib.hid hown
    have HB := Lib.hid hB
    have HX := Lib.hid hx
    have sz := hB.size
    clear hown hB hx
    by_cases hkn : k < 3
    · have xb : x ≤ 5 ∧ 1 ≤ x := by omega
      go_wp2_with (at_builtin; refine wpList_append_own _ rfl _ _ 32 rfl w.heap.size 3 i0 (.int .i64 0) 1 8 Try.underlying32 hi hz0 hz1 hz2 rfl (by decide) _ _ _ rfl (OWN.out.alloc _) ⟨wr.heap.size, 0, none⟩ 1 1 [.int .i64 x] rfl rfl (cell_one_new _ _ _) (by simp [Value.oneCell']) (by unfold maxLen; omega) (by omega) (by simp; omega) ?_; intro v' w1 hown2 hgr hnil)
      have hB1 : Below w.heap.size w w1 := (HB.out.alloc sz (.cells #[.int .i64 x] 3)).grown hgr (by simp; omega) (fun q hq => (OWN.out.lt q hq).1)
      have hown3 : w1.ownsRow w.heap.size 3 1 v' (k + 1) ((List.range (k + 1)).map fun j => .int .i64 (grF 0 j)) := by rw [← range_snoc, HX.out]; exact hown2
      have OW3 := Lib.hid hown3
      have HB1 := Lib.hid hB1
      clear hown2 hgr hnil hown3 hB1
      go_wp2_with (go_at_call 76; refine (step_any 0 (by decide) _).mono ?_; rintro e w2 ⟨rfl, rfl⟩)
      go_roundw
      case rel => exact ⟨k + 1, by omega, by unfold grF; go_num, OW3.out, HB1.out⟩
      case measure => simp [intOf]; omega
    · have hke : k = 3 := by omega
      have xb : 5 < x := by omega
      go_wp2_with fail
      go_ret
      subst hke
      exact ⟨_, rfl, Res.of_own OWN.out, HB.out⟩

set_option maxRecDepth 100000 in
theorem groups_1 (w : World) : Calls Try.prog 70 #[.int .i64 1] w fun e w' => ∃ v, e = .returned v ∧ Res .i64 w.heap.size w' v 12 (grF 1) ∧ Below w.heap.size w w' := by
  obtain ⟨i0, hi, hz0, hz1, hz2⟩ := info_parts info_int
  go_enter Try.func70, Try.ntmps70
  go_wp2_with fail
  go_loopw [2, 4] (fun v i wr => ∃ k : Nat, k ≤ 12 ∧ i = .int .i64 (grF 1 k) ∧ wr.ownsRow w.heap.size 3 1 v k ((List.range k).map fun j => .int .i64 (grF 1 j)) ∧ Below w.heap.size w wr) (fun _ i _ => 20 - (intOf i).toNat)
  case atStart => exact ⟨0, by omega, rfl, World.ownsRow_nil _ _ _ _, Below.refl _ _⟩
  case round =>
    obtain ⟨k, hk, rfl, hown, hB⟩ := hrel
    obtain ⟨x, hx⟩ : ∃ x, grF 1 k = x := ⟨_, rfl⟩
    have hx1 : x ≤ 1 + 1 * (k : Int) ∧ 1 + 1 * (k : Int) ≤ x := by unfold grF at hx; omega
    rw [hx]
    have OWN := Lib.hid hown
    have HB := Lib.hid hB
    have HX := Lib.hid hx
    have sz := hB.size
    clear hown hB hx
    by_cases hkn : k < 12
    · have xb : x ≤ 12 ∧ 1 ≤ x := by omega
      go_wp2_with (at_builtin; refine wpList_append_own _ rfl _ _ 32 rfl w.heap.size 3 i0 (.int .i64 0) 1 8 Try.underlying32 hi hz0 hz1 hz2 rfl (by decide) _ _ _ rfl (OWN.out.alloc _) ⟨wr.heap.size, 0, none⟩ 1 1 [.int .i64 x] rfl rfl (cell_one_new _ _ _) (by simp [Value.oneCell']) (by unfold maxLen; omega) (by omega) (by simp; omega) ?_; intro v' w1 hown2 hgr hnil)
      have hB1 : Below w.heap.size w w1 := (HB.out.alloc sz (.cells #[.int .i64 x] 3)).grown hgr (by simp; omega) (fun q hq => (OWN.out.lt q hq).1)
      have hown3 : w1.ownsRow w.heap.size 3 1 v' (k + 1) ((List.range (k + 1)).map fun j => .int .i64 (grF 1 j)) := by rw [← range_snoc, HX.out]; exact hown2
      have OW3 := Lib.hid hown3
      have HB1 := Lib.hid hB1
      clear hown2 hgr hnil hown3 hB1
      go_wp2_with (go_at_call 76; refine (step_any 1 (by decide) _).mono ?_; rintro e w2 ⟨rfl, rfl⟩)
      go_roundw
      case rel => exact ⟨k + 1, by omega, by unfold grF; go_num, OW3.out, HB1.out⟩
      case measure => simp [intOf]; omega
    · have hke : k = 12 := by omega
      have xb : 12 < x := by omega
      go_wp2_with fail
      go_ret
      subst hke
      exact ⟨_, rfl, Res.of_own OWN.out, HB.out⟩

end Fr
end Go.Proofs.Ytkeempljogjceaa
