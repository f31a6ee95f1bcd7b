/- awake and ScanKnown. -/
import Derived.Test.YtngffhpkjekopaaLaw09b
namespace Go.Proofs.Ytngffhpkjekopaa
open Go.RowKit
namespace Sc

theorem ints_lit (w : World) (L : List Int) (cs : Array Value) (t : TypeId) (hcs : cs = (L.map (Value.int .i64)).toArray) : Ints (w.alloc (.cells cs t)) .i64 w.heap.size 0 L.length (nth L) := by
  subst hcs
  intro i hi
  rw [Nat.zero_add, cell_of_row _ _ i _ t (0, 0) (heap_alloc_new w _)]
  simp [nth, hi, List.getD_eq_getElem?_getD]
theorem sl_lit (w : World) (L : List Int) (n : Nat) (cs : Array Value) (t : TypeId) (hcs : cs = (L.map (Value.int .i64)).toArray) (hn : L.length = n) (hm : n ≤ maxLen) : Sl .i64 (w.alloc (.cells cs t)) (.slice (some ⟨w.heap.size, 0, none⟩) n n) n (nth L) :=
  ⟨_, _, rfl, Nat.le_refl _, hm, .inr ⟨_, _, rfl, by simp, by rw [← hn]; exact ints_lit w L cs t hcs⟩⟩
theorem sl_nil (w : World) (f : Nat → Int) : Sl .i64 w (.slice none 0 0) 0 f := ⟨_, _, rfl, Nat.le_refl _, Nat.zero_le _, .inl ⟨rfl, fun _ => rfl⟩⟩
theorem pl_nil (w : World) (r l : Nat → Int) : Pl w (.slice none 0 0) 0 r l := ⟨_, _, rfl, Nat.le_refl _, Nat.zero_le _, .inl ⟨rfl, fun _ => rfl⟩⟩
theorem pl_lit (w : World) (n : Nat) (r l : Nat → Int) (cs : Array Value) (t : TypeId) (hcs : cs.toList = pcs r l n) (hm : n ≤ maxLen) : Pl (w.alloc (.cells cs t)) (.slice (some ⟨w.heap.size, 0, none⟩) n n) n r l := by
  refine ⟨_, _, rfl, Nat.le_refl _, hm, .inr ⟨_, _, rfl, by simp, fun i hi => ?_⟩⟩
  obtain ⟨h1, h2⟩ := pcs_get r l n i hi
  rw [Nat.zero_add, cell_of_row _ _ _ cs t (0, 0) (heap_alloc_new w _), cell_of_row _ _ _ cs t (0, 0) (heap_alloc_new w _), ← Array.getElem?_toList, ← Array.getElem?_toList, hcs]
  exact ⟨h1, h2⟩
theorem block_lit (w : World) (L : List Int) (q c g : Nat) (cs : Array Value) (t : TypeId) (hg : g = w.heap.size) (hcs : cs = (L.map (Value.int .i64)).toArray) (hL : L.length = 2 * q) (hq : q ≤ 1000) (hp : ∀ k, k < q → 0 ≤ nth L (2 * k) ∧ nth L (2 * k) < 64) :
    Calls Try.prog 22 #[.slice (some ⟨g, 0, none⟩) (2 * q) c] (w.alloc (.cells cs t)) fun e w' => ∃ v, e = .returned v ∧ Sl .i64 w' v 64 (blF (nth L) q) ∧ Below w.heap.size w w' := by
  subst hg
  refine (block_any w.heap.size 0 q c (nth L) _ hq (by rw [← hL]; exact ints_lit w L cs t hcs) hp).mono ?_
  rintro e w' ⟨rfl, ha, hb⟩
  have B := ((Below.refl w.heap.size w).alloc (Nat.le_refl _) (.cells cs t))
  exact ⟨_, rfl, ⟨_, _, rfl, Nat.le_refl _, by decide, .inr ⟨_, _, rfl, ha.lt (by omega), ha.ints⟩⟩, chain B hb⟩
theorem spreads_lit (w : World) (R L first err : Int) (g : Nat) (t : TypeId) (hg : g = w.heap.size) (hE : sE first 1 (nth [R]) (nth [L]) = err) (hN : sN first 1 (nth [R]) (nth [L]) = 0) :
    Calls Try.prog 21 #[.slice (some ⟨g, 0, none⟩) 1 1, .int .i64 first, .slice none 0 0, .int .i64 err] (w.alloc (.cells #[.int .i64 R, .int .i64 L] t)) fun e w' => e = .returned (.bool true) ∧ Below w.heap.size w w' := by
  subst hg
  refine (spreads_true _ _ _ _ 1 0 (nth [R]) (nth [L]) (fun _ => 0) _ (pl_lit w 1 _ _ _ t rfl (by decide)) (sl_nil _ _) (by omega) hN hE (by intro i hi; omega)).mono ?_
  rintro e w' ⟨rfl, hb⟩
  exact ⟨rfl, chain ((Below.refl w.heap.size w).alloc (Nat.le_refl _) _) hb⟩
attribute [local irreducible] spF blF sE sN rE rN ruS rR rL spE
set_option maxRecDepth 100000 in
set_option maxHeartbeats 4000000 in
theorem awake_any (w : World) : Calls Try.prog 9 #[] w fun e w' => e = .returned (.bool true) ∧ Below w.heap.size w w' := by
  have PL := Lib.hid (pl_lit w 2 r2 l2 #[.int .i64 0, .int .i64 5, .int .i64 1, .int .i64 (-2)] 39 rfl (by decide))
  have HB := Lib.hid ((Below.refl w.heap.size w).alloc (Nat.le_refl _) (.cells #[.int .i64 0, .int .i64 5, .int .i64 1, .int .i64 (-2)] 39))
  go_enter Try.func9, Try.ntmps9
  go_wp2_with (first
    | (go_at_call 20; refine (place_true _ _ _ _ (by decide) (by decide)).mono ?_; rintro e w2 ⟨rfl, b2⟩; have PL := Lib.hid (PL.out.below b2); have HB := Lib.hid (chain HB.out b2); clear b2)
    | (go_at_call 22; refine (block_lit _ [0, 5, 8, -2] 2 _ _ _ _ rfl rfl rfl (by omega) (by decide)).mono ?_; rintro e w2 ⟨v, rfl, hk, b2⟩; have SK := Lib.hid hk; have PL := Lib.hid (PL.out.below b2); have HB := Lib.hid (chain HB.out b2); clear b2 hk)
    | (go_at_call 21; refine (spreads_true _ _ _ _ 2 64 r2 l2 _ _ PL.out SK.out (by omega) ex_a.2 ex_a.1 ex_aF).mono ?_; rintro e w2 ⟨rfl, b2⟩; have PL := Lib.hid (PL.out.below b2); have HB := Lib.hid (chain HB.out b2); clear b2 SK)
    | (go_at_call 23; refine (runs_true _ _ _ _ 64 2 _ r2 l2 _ SK.out PL.out ex_c.2 (by omega) ex_c.1 ex_cF).mono ?_; rintro e w2 ⟨rfl, b2⟩; have PL := Lib.hid (PL.out.below b2); have HB := Lib.hid (chain HB.out b2); clear b2 SK))
  go_ret
  exact ⟨rfl, HB.out⟩
end Sc
end Go.Proofs.Ytngffhpkjekopaa
