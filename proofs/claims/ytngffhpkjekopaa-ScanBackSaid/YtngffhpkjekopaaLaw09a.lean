/- The statements' helpers: place, spreads, runs, block. -/
import Derived.Test.YtngffhpkjekopaaSameP
import Derived.Test.YtngffhpkjekopaaSpreadR
namespace Go.Proofs.Ytngffhpkjekopaa
open Go.RowKit
namespace Sc

theorem place_true (i want err : Int) (w : World) (h1 : pV i = want) (h2 : pE i = err) :
    Calls Try.prog 20 #[.int .i64 i, .int .i64 want, .int .i64 err] w fun e w' => e = .returned (.bool true) ∧ Below w.heap.size w w' := by
  have k1 : (want == want) = true := by simp
  have k2 : (err == err) = true := by simp
  have H1 := Lib.hid h1
  have H2 := Lib.hid h2
  clear h1 h2
  go_enter Try.func20, Try.ntmps20
  go_wp2_with (go_at_call 12; refine (Place_any _ _).mono ?_; rintro e w1 ⟨rfl, hw⟩; rw [H1.out, H2.out])
  go_ret
  exact ⟨rfl, hw⟩
theorem spreads_true (v want : Value) (first err : Int) (n m : Nat) (r l g : Nat → Int) (w : World) (hs : Pl w v n r l) (hw : Sl .i64 w want m g) (hn : n ≤ 1000) (hm : sN first n r l = m) (he : sE first n r l = err) (hg : ∀ i, i < m → spF first r l n i = g i) :
    Calls Try.prog 21 #[v, .int .i64 first, want, .int .i64 err] w fun e w' => e = .returned (.bool true) ∧ Below w.heap.size w w' := by
  have k2 : (err == err) = true := by simp
  have HM := Lib.hid hm
  have HE := Lib.hid he
  have HG := Lib.hid hg
  have HS := Lib.hid hs
  have HW := Lib.hid hw
  have M : Hid (m ≤ 64) := Lib.hid (by rw [← hm]; unfold sN; split <;> omega)
  clear hm he hg hs hw
  go_enter Try.func21, Try.ntmps21
  go_wp2_with (first
    | (go_at_call 10; refine (Spread_any _ _ _ _ _ _ HS.out hn).mono ?_; rintro e w1 ⟨u, rfl, hr, hB⟩; rw [HE.out]; have HR := Lib.hid hr; have HB := Lib.hid hB; clear hr hB)
    | (go_at_call 14; refine (SameInts_true _ _ m _ _ _ (by have := M.out; omega) (by rw [← HM.out]; exact HR.out.sl) (HW.out.below HB.out) HG.out).mono ?_; rintro e w2 ⟨rfl, h2⟩; have HB := Lib.hid (chain HB.out h2); clear h2))
  go_ret
  exact ⟨rfl, HB.out⟩
theorem runs_true (v want : Value) (first err : Int) (n m : Nat) (f r l : Nat → Int) (w : World) (hs : Sl .i64 w v n f) (hw : Pl w want m r l) (hm : rN first n f = m) (hm1 : m ≤ 1000) (he : rE first n f = err) (hg : ∀ i, i < m → r i = rR first f i ∧ l i = rL first f i) :
    Calls Try.prog 23 #[v, .int .i64 first, .int .i64 err, want] w fun e w' => e = .returned (.bool true) ∧ Below w.heap.size w w' := by
  have k2 : (err == err) = true := by simp
  have HM := Lib.hid hm
  have HE := Lib.hid he
  have HG := Lib.hid hg
  have HS := Lib.hid hs
  have HW := Lib.hid hw
  clear hm he hg hs hw
  go_enter Try.func23, Try.ntmps23
  go_wp2_with (first
    | (go_at_call 18; refine (Runs_any _ _ _ _ _ HS.out).mono ?_; rintro e w1 ⟨u, rfl, hr, hB⟩; rw [HE.out]; have HR := Lib.hid hr; have HB := Lib.hid hB; clear hr hB)
    | (go_at_call 16; refine (SamePairs_true _ _ m _ _ _ _ _ (by omega) (by rw [← HM.out]; exact HR.out.pl) (HW.out.below HB.out) HG.out).mono ?_; rintro e w2 ⟨rfl, h2⟩; have HB := Lib.hid (chain HB.out h2); clear h2))
  go_ret
  exact ⟨rfl, HB.out⟩
/-- noughts, and numbers at places. -/
def blF (f : Nat → Int) : Nat → Nat → Int
  | 0 => fun _ => 0
  | k + 1 => fun p => if p = (f (2 * k)).toNat then f (2 * k + 1) else blF f k p
set_option maxRecDepth 100000 in
theorem block_any (b o q c : Nat) (f : Nat → Int) (w : World) (hq : q ≤ 1000) (h : Ints w .i64 b o (2 * q) f) (hp : ∀ k, k < q → 0 ≤ f (2 * k) ∧ f (2 * k) < 64) :
    Calls Try.prog 22 #[.slice (some ⟨b, o, none⟩) (2 * q) c] w fun e w' => e = .returned (.slice (some ⟨w.heap.size, 0, none⟩) 64 64) ∧ Arr w' .i64 w.heap.size 64 (blF f q) ∧ Below w.heap.size w w' := by
  have H := Lib.hid h
  have HP := Lib.hid hp
  have hmk := make64s
  have A0 := Lib.hid (zr_new w 3)
  have B0 := Lib.hid ((Below.refl w.heap.size w).alloc (Nat.le_refl _) (.cells (rowOf .i64 64 (fun _ => 0)) 3))
  have hbl : Hid (0 < q → b < w.heap.size) := Lib.hid (fun h0 => h.lt (by omega))
  clear h hp
  go_enter Try.func22, Try.ntmps22
  go_wp2_with fail
  clear hmk
  go_loopw [4] (fun i wr => ∃ k : Nat, k ≤ q ∧ i = .int .i64 ((2 * k : Nat) : Int) ∧ Arr wr .i64 w.heap.size 64 (blF f k) ∧ Below w.heap.size w wr) (fun i _ => 2 * q - (intOf i).toNat)
  case atStart => exact ⟨0, by omega, rfl, A0.out, B0.out⟩
  case round =>
    obtain ⟨k, hk, rfl, hA, hB⟩ := hrel
    by_cases hkq : k < q
    · have hb := hbl.out (by omega)
      obtain ⟨i, hi⟩ : ∃ i, i = 2 * k := ⟨_, rfl⟩
      have e1 := (H.out.below hB hb) i (by omega)
      have e2 := (H.out.below hB hb) (i + 1) (by omega)
      have p1 := HP.out k hkq
      have F : Hid (∀ p, p = (f i).toNat → blF f (k + 1) = fun x => if x = p then f (i + 1) else blF f k x) := Lib.hid (by rintro p rfl; rw [hi]; rfl)
      rw [← hi] at p1 ⊢
      obtain ⟨p, hp⟩ : ∃ p : Nat, f i = (p : Int) := ⟨(f i).toNat, by omega⟩
      have FE := Lib.hid (F.out p (by rw [hp]; rfl))
      rw [hp] at e1 p1
      have pb : (0 : Int) ≤ (p : Int) ∧ (p : Int) < 64 := by omega
      have p64 : p < 64 := by omega
      have cA := hA p p64
      have ib : (0 : Int) ≤ (i : Int) ∧ (i : Int) + 1 < ((2 * q : Nat) : Int) := by omega
      have hi2 : i ≤ 2000 := by omega
      have x1 : IntKind.i64.wrap ((i : Int) + 1) = (i : Int) + 1 := IntWalk.i64_in _ (by omega)
      have HA := Lib.hid hA
      have HB := Lib.hid hB
      have HI := Lib.hid hi
      have lb := HA.out.lt (by omega)
      clear hA hB hi F
      go_wp2_with fail
      go_region
      go_wp2
      go_roundw
      case rel =>
        refine ⟨k + 1, by omega, by have := HI.out; go_num, ?_, ?_⟩
        · rw [FE.out]; exact (HA.out.set p (f (i + 1))).drew
        · exact (HB.out.setCell (p := ⟨w.heap.size, p, none⟩) (Nat.le_refl _) _).drew
      case measure => have := HI.out; simp [intOf]; omega
    · obtain rfl : k = q := by omega
      have HA := Lib.hid hA
      have HB := Lib.hid hB
      clear hA hB hbl
      go_wp2_with fail
      go_ret
      exact ⟨rfl, HA.out, HB.out⟩
end Sc
end Go.Proofs.Ytngffhpkjekopaa
