/- paint, the document's answer: refuses, Lay. -/
import Derived.Test.YtkeempljogjceaaPa4
import Derived.Test.YtkeempljogjceaaRg1
namespace Go.Proofs.Ytkeempljogjceaa
open Go.RowKit Go.Shelf
namespace Pa
open Fr Pt

theorem pl_eq (n g a k : Int) : Rf.plA n g a k = pA n g a k ∧ Rf.plS n g a k = pS n g a k ∧ Rf.plE n g a k = pE n g a k := by
  have e : Rf.plE n g a k = pE n g a k := rfl
  refine ⟨?_, ?_, e⟩
  · unfold Rf.plA pA
    rw [e]
    rfl
  · unfold Rf.plS pS
    rw [e]
    rfl
theorem sl_new1 (w : World) (x : Int) (b : Nat) (hb : b = w.heap.size) : Sl .i64 (w.alloc (.cells #[.int .i64 x] 3)) (.slice (some ⟨b, 0, none⟩) 1 1) 1 (fun _ => x) := by
  subst hb
  have h := Arr.new w .i64 #[.int .i64 x] 3 1 (fun _ => x) (fun i hi => match i, hi with | 0, _ => rfl)
  exact ⟨_, 1, rfl, Nat.le_refl _, by decide, .inr ⟨_, 0, rfl, by simp, h.ints⟩⟩
def twoF (x y : Int) (i : Nat) : Int := if i = 0 then x else y
theorem sl_new2 (w : World) (x y : Int) (b : Nat) (hb : b = w.heap.size) : Sl .i64 (w.alloc (.cells #[.int .i64 x, .int .i64 y] 3)) (.slice (some ⟨b, 0, none⟩) 2 2) 2 (twoF x y) := by
  subst hb
  have h := Arr.new w .i64 #[.int .i64 x, .int .i64 y] 3 2 (twoF x y) (fun i hi => by
    rcases (by omega : i = 0 ∨ i = 1) with rfl | rfl <;> rfl)
  exact ⟨_, 2, rfl, Nat.le_refl _, by decide, .inr ⟨_, 0, rfl, by simp, h.ints⟩⟩
/-- why there is no such place in so many bytes. -/
def allZ (z : Int) (f : Nat → Int) (k : Nat) : Prop := ∀ i, i < k → f i = z
instance (z : Int) (f : Nat → Int) (k : Nat) : Decidable (allZ z f k) := inferInstanceAs (Decidable (∀ i, i < k → f i = z))
def refE (n g a : Int) (m : Nat) (f : Nat → Int) : Int := if cE n g a ≠ 0 then cE n g a else if allZ (zV n) f m then 0 else 2
theorem rrefuses_any (n g a : Int) (v : Value) (m : Nat) (f : Nat → Int) (w : World) (hm : m ≤ 10) (h0 : 0 < m) (hs : Sl .i64 w v m f) :
    Calls Try.prog 51 #[.agg #[.int .i64 n, .int .i64 g, .int .i64 a], v] w fun e w' => e = .returned (.int .i64 (refE n g a m f)) ∧ Below w.heap.size w w' := by
  obtain ⟨p, c, rfl, hc1, _, d⟩ := hs
  rcases d with ⟨h, _⟩ | ⟨b, o, rfl, hb, hI⟩
  · omega
  by_cases hc : cE n g a = 0
  · have ht : n = 0 ∨ n = 1 := (cE_cases n g a hc).1
    obtain ⟨z, hz⟩ : ∃ z, zV n = z := ⟨_, rfl⟩
    have hE : refE n g a m f = if allZ z f m then 0 else 2 := by unfold refE; rw [if_neg (by omega), hz]
    have HE := Lib.hid hE
    have HC := Lib.hid hc
    have HZ := Lib.hid hz
    have HI := Lib.hid hI
    clear hc hE hz hI
    go_enter Try.func51, Try.ntmps51
    go_wp2_with (first
      | (go_at_call 64; refine (Rf.rCorner_any n g a _).mono ?_; rintro e w1 ⟨rfl, hB⟩; rw [HC.out]; have HB := Lib.hid (chain (((Below.refl w.heap.size w).alloc (Nat.le_refl _) _)) hB); have c0 := (bcell hB).1 w.heap.size; clear hB)
      | (go_at_call 54; refine (Rf.rSize_any n _).mono ?_; rintro e w2 ⟨rfl, rfl⟩; rw [HZ.out]))
    have HJ := Lib.hid (HI.out.below HB.out hb)
    go_loopw [12] (fun i wr => ∃ k : Nat, k ≤ m ∧ i = .int .i64 k ∧ allZ z f k ∧ wr = w1) (fun i _ => m - (intOf i).toNat)
    case atStart => exact ⟨0, by omega, rfl, fun i hi => by omega, rfl⟩
    case round =>
      obtain ⟨k, hk, rfl, hok, hw⟩ := hrel
      obtain rfl := hw.symm
      have OK := Lib.hid hok
      clear hok hw
      by_cases hkn : k < m
      · have e1 := HJ.out k hkn
        have b1 : (0 : Int) ≤ (k : Int) ∧ (k : Int) < (m : Int) := by omega
        by_cases l1 : f k = z
        · have OK2 : Hid (allZ z f (k + 1)) := Lib.hid (fun i hi => by
            by_cases e : i = k
            · subst e; exact l1
            · exact OK.out i (by omega))
          have t1 : (f k != z) = false := by simp [l1]
          clear l1
          go_wp2_with fail
          go_roundw
          case rel => exact ⟨k + 1, by omega, by go_num, OK2.out, by trivial⟩
          case measure => simp [intOf]; omega
        · have E : Hid (refE n g a m f = 2) := Lib.hid (by rw [HE.out, if_neg (fun h => l1 (h k hkn))])
          have t1 : (f k != z) = true := by simp [l1]
          clear l1
          go_wp2_with fail
          go_ret
          exact ⟨by rw [E.out]; rfl, HB.out⟩
      · obtain rfl : k = m := by omega
        have E : Hid (refE n g a k f = 0) := Lib.hid (by rw [HE.out, if_pos OK.out])
        go_wp2_with fail
        go_ret
        exact ⟨by rw [E.out]; rfl, HB.out⟩
  · have E : Hid (refE n g a m f = cE n g a) := Lib.hid (by unfold refE; rw [if_pos hc])
    obtain ⟨x, hx⟩ : ∃ x, cE n g a = x := ⟨_, rfl⟩
    have HX := Lib.hid hx
    rw [hx] at hc
    have t0 : (x != 0) = true := by simpa using hc
    clear hc hx hI
    go_enter Try.func51, Try.ntmps51
    go_wp2_with (go_at_call 64; refine (Rf.rCorner_any n g a _).mono ?_; rintro e w1 ⟨rfl, hB⟩; rw [HX.out]; have HB := Lib.hid (chain (((Below.refl w.heap.size w).alloc (Nat.le_refl _) _)) hB); clear hB)
    go_ret
    exact ⟨by rw [E.out, HX.out]; rfl, HB.out⟩
theorem rlay_no1 (p q : Option Addr) (N c M d : Nat) (n g a k : Int) (w : World) (hc : refE n g a 1 (fun _ => (N : Int)) ≠ 0) :
    Calls Try.prog 29 #[.slice p N c, .agg #[.int .i64 n, .int .i64 g, .int .i64 a], .int .i64 k, .slice q M d] w fun e w' => e = .returned (.int .i64 (refE n g a 1 (fun _ => (N : Int)))) ∧ Below w.heap.size w w' := by
  obtain ⟨x, hx⟩ : ∃ x, refE n g a 1 (fun _ => (N : Int)) = x := ⟨_, rfl⟩
  have HX := Lib.hid hx
  rw [hx] at hc
  have t0 : (x != 0) = true := by simpa using hc
  clear hc hx
  go_enter Try.func29, Try.ntmps29
  go_wp2_with (go_at_call 51; refine (rrefuses_any n g a _ 1 _ _ (by omega) (by omega) (sl_new1 _ _ _ (by simp))).mono ?_; rintro e w1 ⟨rfl, hB⟩; rw [HX.out]; have HB := Lib.hid (chain ((((Below.refl w.heap.size w).alloc (Nat.le_refl _) _)).alloc (by simp) _) hB); clear hB)
  go_ret
  exact ⟨by rw [HX.out]; rfl, HB.out⟩
theorem rlay_no2 (p q : Option Addr) (N c M d : Nat) (n g a k : Int) (w : World) (hc : refE n g a 1 (fun _ => (N : Int)) = 0) (hM : M ≠ 64) :
    Calls Try.prog 29 #[.slice p N c, .agg #[.int .i64 n, .int .i64 g, .int .i64 a], .int .i64 k, .slice q M d] w fun e w' => e = .returned (.int .i64 2) ∧ Below w.heap.size w w' := by
  have HX := Lib.hid hc
  have t0 : ((M : Int) != 64) = true := by simp; omega
  clear hc hM
  go_enter Try.func29, Try.ntmps29
  go_wp2_with (go_at_call 51; refine (rrefuses_any n g a _ 1 _ _ (by omega) (by omega) (sl_new1 _ _ _ (by simp))).mono ?_; rintro e w1 ⟨rfl, hB⟩; rw [HX.out]; have HB := Lib.hid (chain ((((Below.refl w.heap.size w).alloc (Nat.le_refl _) _)).alloc (by simp) _) hB); clear hB)
  go_ret
  exact ⟨rfl, HB.out⟩
theorem rlay_no3 (p q : Option Addr) (N c d : Nat) (n g a k : Int) (w : World) (hc : refE n g a 1 (fun _ => (N : Int)) = 0) (hP : pE n g a k ≠ 0) :
    Calls Try.prog 29 #[.slice p N c, .agg #[.int .i64 n, .int .i64 g, .int .i64 a], .int .i64 k, .slice q 64 d] w fun e w' => e = .returned (.int .i64 (pE n g a k)) ∧ Below w.heap.size w w' := by
  obtain ⟨x, hx⟩ : ∃ x, pE n g a k = x := ⟨_, rfl⟩
  have HP : Hid (Rf.plE n g a k = x) := Lib.hid (by rw [(pl_eq n g a k).2.2, hx])
  have HQ := Lib.hid hx
  rw [hx] at hP
  have t0 : (x != 0) = true := by simpa using hP
  have HX := Lib.hid hc
  clear hc hP hx
  go_enter Try.func29, Try.ntmps29
  go_wp2_with (first
    | (go_at_call 51; refine (rrefuses_any n g a _ 1 _ _ (by omega) (by omega) (sl_new1 _ _ _ (by simp))).mono ?_; rintro e w1 ⟨rfl, hB⟩; rw [HX.out]; have HB := Lib.hid (chain ((((Below.refl w.heap.size w).alloc (Nat.le_refl _) _)).alloc (by simp) _) hB); have c0 := (bcell hB).1 w.heap.size; clear hB)
    | (go_at_call 52; refine (Rf.rPlace_any n g a k _).mono ?_; rintro e w2 ⟨rfl, hB⟩; rw [HP.out]; have HB2 := Lib.hid (chain HB.out hB); clear hB))
  go_ret
  exact ⟨by rw [HQ.out]; rfl, HB2.out⟩
set_option maxRecDepth 100000 in
set_option maxHeartbeats 1000000 in
theorem rlay_yes (b N c sb so sc A S : Nat) (f s : Nat → Int) (n g a k : Int) (w : World) (hA : Arr w .u8 b N f) (hI : Ints w .u8 sb so 64 s) (hne : sb ≠ b) (hc : cE n g a = 0) (hN : (N : Int) = zV n) (hk : 1 ≤ k ∧ k ≤ 6) (hAp : (A : Int) = pA n g a k) (hSp : (S : Int) = pS n g a k) :
    Calls Try.prog 29 #[.slice (some ⟨b, 0, none⟩) N c, .agg #[.int .i64 n, .int .i64 g, .int .i64 a], .int .i64 k, .slice (some ⟨sb, so, none⟩) 64 sc] w fun e w' => e = .returned (.int .i64 0) ∧ Arr w' .u8 b N (layN A S s f 64) ∧ w.grownBy w' (some b) := by
  have fit := place_fit n g a k hc hk
  have zb : zV n ≤ 152064 := by rcases (cE_cases n g a hc).1 with rfl | rfl <;> decide
  have fitN : A + 7 * S + 8 ≤ N ∧ A ≤ 200000 ∧ S ≤ 400 := by omega
  have HX : Hid (refE n g a 1 (fun _ => (N : Int)) = 0) := Lib.hid (by unfold refE; rw [if_neg (by omega), if_pos (show allZ (zV n) (fun _ => (N : Int)) 1 from fun i _ => hN)])
  have HP : Hid (Rf.plE n g a k = 0) := Lib.hid (by rw [(pl_eq n g a k).2.2]; unfold pE; rw [if_neg (by omega), if_neg (by omega)])
  have HA1 : Hid (Rf.plA n g a k = (A : Int)) := Lib.hid (by rw [(pl_eq n g a k).1, hAp])
  have HS1 : Hid (Rf.plS n g a k = (S : Int)) := Lib.hid (by rw [(pl_eq n g a k).2.1, hSp])
  have hbl := hA.lt (by omega)
  have hsl := hI.lt (by omega)
  have HA := Lib.hid hA
  have HI := Lib.hid hI
  clear hc hN hk fit zb hAp hSp hA hI
  go_enter Try.func29, Try.ntmps29
  go_wp2_with (first
    | (go_at_call 51; refine (rrefuses_any n g a _ 1 _ _ (by omega) (by omega) (sl_new1 _ _ _ (by simp))).mono ?_; rintro e w1 ⟨rfl, hB⟩; rw [HX.out]; have HB := Lib.hid (chain ((((Below.refl w.heap.size w).alloc (Nat.le_refl _) _)).alloc (by simp) _) hB); have c0 := (bcell hB).1 w.heap.size; clear hB)
    | (go_at_call 52; refine (Rf.rPlace_any n g a k _).mono ?_; rintro e w2 ⟨rfl, hB⟩; rw [HP.out, HA1.out, HS1.out]; have HB2 := Lib.hid (chain HB.out hB); clear hB c0))
  go_loopw [13] (fun i wr => ∃ j : Nat, j ≤ 64 ∧ i = .int .i64 j ∧ Arr wr .u8 b N (layN A S s f j) ∧ Ints wr .u8 sb so 64 s ∧ w.grownBy wr (some b)) (fun i _ => 64 - (intOf i).toNat)
  case atStart => exact ⟨0, by omega, rfl, HA.out.below HB2.out hbl, HI.out.below HB2.out hsl, grown_of_below HB2.out _⟩
  case round =>
    obtain ⟨j, hj, rfl, h1, h2, h3⟩ := hrel
    clear HB HB2
    by_cases hj64 : j < 64
    · have hjS : j / 8 * S ≤ 7 * S := Nat.mul_le_mul_right S (by omega)
      obtain ⟨t, ht⟩ : ∃ t : Nat, j / 8 = t := ⟨_, rfl⟩
      obtain ⟨r, hr⟩ : ∃ r : Nat, j % 8 = r := ⟨_, rfl⟩
      obtain ⟨q, hq⟩ : ∃ q : Nat, t * S = q := ⟨_, rfl⟩
      obtain ⟨p, hp⟩ : ∃ p : Nat, A + q + r = p := ⟨_, rfl⟩
      rw [ht, hq] at hjS
      have hpN : p < N := by omega
      have htI : (j : Int) / 8 = (t : Int) := by omega
      have hrI : (j : Int) % 8 = (r : Int) := by omega
      have hqI : (t : Int) * (S : Int) = (q : Int) := by rw [← hq]; push_cast; rfl
      have hpI : (A : Int) + (q : Int) + (r : Int) = (p : Int) := by omega
      have pb : (0 : Int) ≤ (p : Int) ∧ (p : Int) < (N : Int) := by omega
      have jb : (0 : Int) ≤ (j : Int) ∧ (j : Int) < 64 := by omega
      have qb : (0 : Int) ≤ (q : Int) ∧ (q : Int) ≤ 2800 := by omega
      have rb : (0 : Int) ≤ (r : Int) ∧ (r : Int) ≤ 8 := by omega
      have ab : (0 : Int) ≤ (A : Int) ∧ (A : Int) ≤ 200000 := by omega
      have ca := h1 p hpN
      have cs := h2 j hj64
      obtain ⟨x, hx⟩ : ∃ x, s j = x := ⟨_, rfl⟩
      rw [hx] at cs
      have LN : Hid (layN A S s f (j + 1) = fun i => if i = p then x else layN A S s f j i) := Lib.hid (by
        funext i
        show putOne A S s (layN A S s f j) j i = _
        unfold putOne
        rw [ht, hr, hq, hp, hx])
      have HA := Lib.hid h1
      have HI := Lib.hid h2
      have HG := Lib.hid h3
      have e1 : IntKind.i64.wrap ((t : Int) * (S : Int)) = (q : Int) := by rw [hqI]; exact IntWalk.i64_in _ (by omega)
      clear h1 h2 h3 ht hr hq hp hqI hx hjS
      go_wp2_with fail
      clear e1
      go_roundw
      case rel => exact ⟨j + 1, by omega, by go_num, by rw [LN.out]; exact HA.out.set p x, HI.out.far (fun e => hne e.symm) _, grown_set HG.out _ _⟩
      case measure => simp [intOf]; omega
    · obtain rfl : j = 64 := by omega
      have HA := Lib.hid h1
      have HG := Lib.hid h3
      clear h1 h2 h3
      go_wp2_with fail
      go_ret
      exact ⟨rfl, HA.out, HG.out⟩
end Pa
end Go.Proofs.Ytkeempljogjceaa
