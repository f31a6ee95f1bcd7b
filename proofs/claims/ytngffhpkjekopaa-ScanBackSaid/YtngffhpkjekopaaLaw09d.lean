/- ScanKnown. -/
import Derived.Test.YtngffhpkjekopaaLaw09c
import Derived.Deep.RegionWith
import Derived.Deep.Cut
namespace Go.Proofs.Ytngffhpkjekopaa
open Go.RowKit
namespace Sc

theorem pair_spreads (w w3 : World) (v : Value) (R L : Int) (t : TypeId) (g : Nat → Int) (hg : sN 1 1 (nth [R]) (nth [L]) = 64) (he : sE 1 1 (nth [R]) (nth [L]) = 0) (hF : ∀ i, i < 64 → spF 1 (nth [R]) (nth [L]) 1 i = g i) (hb : Below (w.alloc (.cells #[.int .i64 R, .int .i64 L] t)).heap.size (w.alloc (.cells #[.int .i64 R, .int .i64 L] t)) w3) (hv : Sl .i64 w3 v 64 g) :
    Calls Try.prog 21 #[.slice (some ⟨w.heap.size, 0, none⟩) 1 1, .int .i64 1, v, .int .i64 0] w3 fun e w' => e = .returned (.bool true) ∧ Below w3.heap.size w3 w' :=
  spreads_true _ _ _ _ 1 64 _ _ _ _ ((pl_lit w 1 (nth [R]) (nth [L]) _ t rfl (by decide)).below hb) hv (by omega) hg he hF
theorem spreads_nil (w : World) : Calls Try.prog 21 #[.slice none 0 0, .int .i64 2, .slice none 0 0, .int .i64 3] w fun e w' => e = .returned (.bool true) ∧ Below w.heap.size w w' :=
  spreads_true _ _ _ _ 0 0 (nth []) (nth []) (fun _ => 0) _ (pl_nil _ _ _) (sl_nil _ _) (by omega) ex_i.2 ex_i.1 (by intro i hi; omega)
theorem runs_j (w : World) (v : Value) (h : Sl .i64 w v 64 (blF (nth [0, 5]) 1)) : Calls Try.prog 23 #[v, .int .i64 1, .int .i64 2, .slice none 0 0] w fun e w' => e = .returned (.bool true) ∧ Below w.heap.size w w' :=
  runs_true _ _ _ _ 64 0 _ (fun _ => 0) (fun _ => 0) _ h (pl_nil _ _ _) ex_j.2 (by omega) ex_j.1 (by intro i hi; omega)
theorem runs_k (w : World) (t : TypeId) : Calls Try.prog 23 #[.slice (some ⟨w.heap.size, 0, none⟩) 3 3, .int .i64 0, .int .i64 2, .slice none 0 0] (w.alloc (.cells #[.int .i64 1, .int .i64 2, .int .i64 3] t)) fun e w' => e = .returned (.bool true) ∧ Below w.heap.size w w' := by
  refine (runs_true _ _ _ _ 3 0 _ (fun _ => 0) (fun _ => 0) _ (sl_lit w [1, 2, 3] 3 _ _ rfl rfl (by decide)) (pl_nil _ _ _) ex_k.2 (by omega) ex_k.1 (by intro i hi; omega)).mono ?_
  rintro e w' ⟨rfl, hb⟩
  exact ⟨rfl, chain ((Below.refl w.heap.size w).alloc (Nat.le_refl _) _) hb⟩
attribute [local irreducible] spF blF sE sN rE rN ruS rR rL spE
set_option maxRecDepth 100000 in
set_option maxHeartbeats 8000000 in
theorem ScanKnown_any (w : World) : Calls Try.prog 5 #[] w fun e w' => e = .returned (.bool true) ∧ Below w.heap.size w w' := by
  have PL := Lib.hid (pl_lit w 2 r2 l2 #[.int .i64 0, .int .i64 5, .int .i64 1, .int .i64 (-2)] 39 rfl (by decide))
  have HB := Lib.hid ((Below.refl w.heap.size w).alloc (Nat.le_refl _) (.cells #[.int .i64 0, .int .i64 5, .int .i64 1, .int .i64 (-2)] 39))
  go_enter Try.func5, Try.ntmps5
  go_upto_region 3 with (first
    | (go_at_call 20; refine (place_true _ _ _ _ (by decide) (by decide)).mono ?_; rintro e w2 ⟨rfl, b2⟩; have PL := Lib.hid (PL.out.below b2); have HB := Lib.hid (chain HB.out b2); clear b2)
    | (go_at_call 22; refine (block_lit _ [1, 5, 16, -2] 2 _ _ _ _ rfl rfl rfl (by omega) (by decide)).mono ?_; rintro e w2 ⟨v, rfl, hk, b2⟩; have SK := Lib.hid hk; have PL := Lib.hid (PL.out.below b2); have HB := Lib.hid (chain HB.out b2); clear b2 hk)
    | (go_at_call 21; refine (spreads_true _ _ _ _ 2 64 r2 l2 _ _ PL.out SK.out (by omega) ex_b.2 ex_b.1 ex_bF).mono ?_; rintro e w2 ⟨rfl, b2⟩; have HB := Lib.hid (chain HB.out b2); clear b2 SK PL))
  go_upto_region 4 with (first
    | (go_at_call 22; refine (block_lit _ [63, 1] 1 _ _ _ _ (by simp) rfl rfl (by omega) (by decide)).mono ?_; rintro e w3 ⟨v, rfl, hk, b2⟩; have SK := Lib.hid hk; have H3 := Lib.hid b2; have HB := Lib.hid (chain (HB.out.alloc HB.out.size _) b2); clear b2 hk)
    | (go_at_call 21; refine (pair_spreads _ _ _ 62 1 _ _ ex_d.2 ex_d.1 ex_dF H3.out SK.out).mono ?_; rintro e w2 ⟨rfl, b2⟩; have HB := Lib.hid (chain HB.out b2); clear b2 SK H3)
    | (go_at_call 21; refine (spreads_lit _ _ _ _ _ _ _ rfl (by decide +kernel) (by decide +kernel)).mono ?_; rintro e w2 ⟨rfl, b2⟩; have HB := Lib.hid (chain HB.out b2); clear b2))
  have T1 : Hid True := Lib.hid trivial
  go_upto_region 5 with (first
    | (go_at_call 21; clear T1; refine (spreads_lit _ _ _ _ _ _ _ rfl ex_h.1 ex_h.2).mono ?_; rintro e w2 ⟨rfl, b2⟩; have HB := Lib.hid (chain HB.out b2); clear b2)
    | (go_at_call 21; refine (spreads_nil _).mono ?_; rintro e w2 ⟨rfl, b2⟩; have HB := Lib.hid (chain HB.out b2); clear b2)
    | (go_at_call 22; refine (block_lit _ [0, 5] 1 _ _ _ _ rfl rfl rfl (by omega) (by decide)).mono ?_; rintro e w2 ⟨v, rfl, hk, b2⟩; have SK := Lib.hid hk; have HB := Lib.hid (chain HB.out b2); clear b2 hk)
    | (go_at_call 23; refine (runs_j _ _ SK.out).mono ?_; rintro e w2 ⟨rfl, b2⟩; have HB := Lib.hid (chain HB.out b2); clear b2 SK)
    | (go_at_call 23; refine (runs_k _ _).mono ?_; rintro e w2 ⟨rfl, b2⟩; have HB := Lib.hid (chain HB.out b2); clear b2))
  go_wp2_with ((go_at_call 9; refine (awake_any _).mono ?_; rintro e w2 ⟨rfl, b2⟩; have HB := Lib.hid (chain HB.out b2); clear b2))
  go_ret
  exact ⟨rfl, HB.out⟩
end Sc
end Go.Proofs.Ytngffhpkjekopaa
