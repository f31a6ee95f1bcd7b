/- paint, the document's answer: Copy. -/
import Derived.Test.YtkeempljogjceaaPa7
namespace Go.Proofs.Ytkeempljogjceaa
open Go.RowKit Go.Shelf
namespace Pa
open Fr Pt

def blA (n g a : Int) (k : Nat) : Nat := (pA n g a k).toNat
def blS (n g a : Int) (k : Nat) : Nat := (pS n g a k).toNat
def srcF (A S : Nat) (F : Nat → Int) (j : Nat) : Int := F (A + j / 8 * S + j % 8)
/-- the first k blocks copied. -/
def copF (n g a : Int) (F f : Nat → Int) : Nat → Nat → Int
  | 0 => f
  | k + 1 => layN (blA n g a (k + 1)) (blS n g a (k + 1)) (srcF (blA n g a (k + 1)) (blS n g a (k + 1)) F) (copF n g a F f k) 64
def copE (n g a : Int) (N M : Nat) : Int := refE n g a 2 (twoF (N : Int) (M : Int))
theorem copE_zero {n g a : Int} {N M : Nat} (h : copE n g a N M = 0) : cE n g a = 0 ∧ (N : Int) = zV n ∧ (M : Int) = zV n := by
  unfold copE refE at h
  by_cases hc : cE n g a = 0
  · rw [if_neg (by omega)] at h
    by_cases ha : allZ (zV n) (twoF (N : Int) (M : Int)) 2
    · exact ⟨hc, ha 0 (by omega), ha 1 (by omega)⟩
    · rw [if_neg ha] at h; omega
  · rw [if_pos hc] at h; omega
theorem copE_ok {n g a : Int} {N M : Nat} (hc : cE n g a = 0) (hN : (N : Int) = zV n) (hM : (M : Int) = zV n) : copE n g a N M = 0 := by
  unfold copE refE
  rw [if_neg (by omega), if_pos]
  intro i hi
  rcases (by omega : i = 0 ∨ i = 1) with rfl | rfl
  · exact hN
  · exact hM
theorem bl_fit (n g a : Int) (k : Nat) (hc : cE n g a = 0) (hk : 1 ≤ k ∧ k ≤ 6) : (blA n g a k : Int) = pA n g a k ∧ (blS n g a k : Int) = pS n g a k ∧ (blA n g a k : Int) + 7 * blS n g a k + 8 ≤ zV n ∧ 8 ≤ blS n g a k ∧ blA n g a k ≤ 200000 ∧ blS n g a k ≤ 400 := by
  have fit := place_fit n g a k hc (by omega)
  have zb : zV n ≤ 152064 := by rcases (cE_cases n g a hc).1 with rfl | rfl <;> decide
  unfold blA blS
  omega
theorem rcopy_no (p q : Option Addr) (N c M d : Nat) (n g a : Int) (w : World) (hc : copE n g a N M ≠ 0) :
    Calls Try.prog 30 #[.slice p N c, .slice q M d, .agg #[.int .i64 n, .int .i64 g, .int .i64 a]] w fun e w' => e = .returned (.int .i64 (copE n g a N M)) ∧ Below w.heap.size w w' := by
  obtain ⟨x, hx⟩ : ∃ x, refE n g a 2 (twoF (N : Int) (M : Int)) = x := ⟨_, rfl⟩
  have HX := Lib.hid hx
  have HE : Hid (copE n g a N M = x) := Lib.hid hx
  rw [show copE n g a N M = x from hx] at hc
  have t0 : (x != 0) = true := by simpa using hc
  clear hc hx
  go_enter Try.func30, Try.ntmps30
  go_wp2_with (go_at_call 51; refine (rrefuses_any n g a _ 2 _ _ (by omega) (by omega) (sl_new2 _ _ _ _ (by simp))).mono ?_; rintro e w1 ⟨rfl, hB⟩; rw [HX.out]; have HB := Lib.hid (chain ((((Below.refl w.heap.size w).alloc (Nat.le_refl _) _)).alloc (by simp) _) hB); clear hB)
  go_ret
  exact ⟨by rw [HE.out]; rfl, HB.out⟩
def SpotAt (w : World) (B : Nat) (n g a : Int) : Prop := w.heap[B]? = some (.cells #[.int .i64 n, .int .i64 g, .int .i64 a] 29 (0, 0))
theorem SpotAt.kept {w w' : World} {B : Nat} {n g a : Int} {row : Option Nat} (h : SpotAt w B n g a) (hg : w.grownBy w' row) (hne : some B ≠ row) : SpotAt w' B n g a := (hg.block B (Array.getElem?_eq_some_iff.1 h).1 hne).trans h
theorem SpotAt.lt {w : World} {B : Nat} {n g a : Int} (h : SpotAt w B n g a) : B < w.heap.size := (Array.getElem?_eq_some_iff.1 h).1
theorem SpotAt.cells {w : World} {B : Nat} {n g a : Int} (h : SpotAt w B n g a) : w.cell? ⟨B, 0, none⟩ = some (.int .i64 n) ∧ w.cell? ⟨B, 1, none⟩ = some (.int .i64 g) ∧ w.cell? ⟨B, 2, none⟩ = some (.int .i64 a) := cells3 h
set_option maxRecDepth 100000 in
set_option maxHeartbeats 1000000 in
theorem rcopy_yes (b N c fb fo d : Nat) (f F : Nat → Int) (n g a : Int) (w : World) (hA : Arr w .u8 b N f) (hI : Ints w .u8 fb fo N F) (hne : fb ≠ b) (hc : cE n g a = 0) (hN : (N : Int) = zV n) :
    Calls Try.prog 30 #[.slice (some ⟨b, 0, none⟩) N c, .slice (some ⟨fb, fo, none⟩) N d, .agg #[.int .i64 n, .int .i64 g, .int .i64 a]] w fun e w' => e = .returned (.int .i64 0) ∧ Arr w' .u8 b N (copF n g a F f 6) ∧ w.grownBy w' (some b) := by
  have zb : 38016 ≤ zV n := by rcases (cE_cases n g a hc).1 with rfl | rfl <;> decide
  have HX : Hid (refE n g a 2 (twoF (N : Int) (N : Int)) = 0) := Lib.hid (copE_ok hc hN hN)
  have BF : Hid (∀ k : Nat, 1 ≤ k ∧ k ≤ 6 → ((Rf.plA n g a k = (blA n g a k : Int) ∧ Rf.plS n g a k = (blS n g a k : Int)) ∧ Rf.plE n g a k = 0) ∧ blA n g a k + 7 * blS n g a k + 8 ≤ N ∧ blA n g a k ≤ 200000 ∧ blS n g a k ≤ 400) := Lib.hid (fun k hk => by
    have h := bl_fit n g a k hc hk
    refine ⟨⟨⟨by rw [(pl_eq n g a k).1, h.1], by rw [(pl_eq n g a k).2.1, h.2.1]⟩, by rw [(pl_eq n g a k).2.2]; unfold pE; rw [if_neg (by omega), if_neg (by omega)]⟩, ?_⟩
    omega)
  have hbl := hA.lt (by omega)
  have hsl := hI.lt (by omega)
  have HA := Lib.hid hA
  have HI := Lib.hid hI
  have s0 : SpotAt (w.alloc (.cells #[.int .i64 n, .int .i64 g, .int .i64 a] 29)) w.heap.size n g a := heap_alloc_new w _
  clear hc hN zb hA hI
  go_enter Try.func30, Try.ntmps30
  go_wp2_with (go_at_call 51; refine (rrefuses_any n g a _ 2 _ _ (by omega) (by omega) (sl_new2 _ _ _ _ (by simp))).mono ?_; rintro e w1 ⟨rfl, hB⟩; rw [HX.out]; have HB := Lib.hid (chain ((((Below.refl w.heap.size w).alloc (Nat.le_refl _) _)).alloc (by simp) _) hB); have HS := Lib.hid ((s0.kept (World.grownBy_alloc _ _ none) (by simp)).kept (grown_of_below hB none) (by simp)); clear hB s0)
  go_loopw [8, 12] (fun i _ wr => ∃ k : Nat, k ≤ 6 ∧ i = .int .i64 ((k : Int) + 1) ∧ Arr wr .u8 b N (copF n g a F f k) ∧ Ints wr .u8 fb fo N F ∧ SpotAt wr w.heap.size n g a ∧ w.grownBy wr (some b)) (fun i _ _ => 7 - (intOf i).toNat)
  case atStart => exact ⟨0, by omega, rfl, HA.out.below HB.out hbl, HI.out.below HB.out hsl, HS.out, grown_of_below HB.out _⟩
  case round =>
    obtain ⟨k, hk, rfl, h1, h2, h3, h4⟩ := hrel
    clear HB HS
    by_cases hk6 : k < 6
    · obtain ⟨⟨⟨pa, ps⟩, pe⟩, fit⟩ := BF.out (k + 1) (by omega)
      rw [show ((k + 1 : Nat) : Int) = (k : Int) + 1 by omega] at pa ps pe
      obtain ⟨A, hAe⟩ : ∃ A, blA n g a (k + 1) = A := ⟨_, rfl⟩
      obtain ⟨S, hSe⟩ : ∃ S, blS n g a (k + 1) = S := ⟨_, rfl⟩
      rw [hAe] at pa fit
      rw [hSe] at ps fit
      have PA := Lib.hid pa
      have PS := Lib.hid ps
      have PE := Lib.hid pe
      have EN : Hid (copF n g a F f (k + 1) = layN A S (srcF A S F) (copF n g a F f k) 64) := Lib.hid (by rw [← hAe, ← hSe]; rfl)
      obtain ⟨c0, c1, c2⟩ := h3.cells
      have HA := Lib.hid h1
      have HI := Lib.hid h2
      have HS := Lib.hid h3
      have HG := Lib.hid h4
      have sz := h4.size
      clear pa ps pe hAe hSe h1 h2 h3 h4
      have kb : (k : Int) + 1 ≤ 6 := by omega
      go_wp2_with (go_at_call 52; refine (Rf.rPlace_any n g a ((k : Int) + 1) _).mono ?_; rintro e w2 ⟨rfl, hB⟩; rw [PA.out, PS.out, PE.out]; have HA := Lib.hid (HA.out.below hB (by omega)); have HI := Lib.hid (HI.out.below hB (by omega)); have HS := Lib.hid (HS.out.kept (grown_of_below hB none) (by simp)); have HG := Lib.hid (grown_trans HG.out (grown_of_below hB _)); clear hB c0 c1 c2)
      obtain ⟨h0, hh0⟩ : ∃ h0, copF n g a F f k = h0 := ⟨_, rfl⟩
      rw [hh0] at HA EN
      clear hh0
      go_loopw [12] (fun i wr => ∃ j : Nat, j ≤ 64 ∧ i = .int .i64 j ∧ Arr wr .u8 b N (layN A S (srcF A S F) h0 j) ∧ Ints wr .u8 fb fo N F ∧ SpotAt wr w.heap.size n g a ∧ w.grownBy wr (some b)) (fun i _ => 64 - (intOf i).toNat)
      case atStart => exact ⟨0, by omega, rfl, HA.out, HI.out, HS.out, HG.out⟩
      case round =>
        clear HA HI HS HG
        obtain ⟨j, hj, rfl, h1, h2, h3, h4⟩ := hrel
        by_cases hj64 : j < 64
        · have hjS : j / 8 * S ≤ 7 * S := Nat.mul_le_mul_right S (by omega)
          obtain ⟨t, ht⟩ : ∃ t : Nat, j / 8 = t := ⟨_, rfl⟩
          obtain ⟨r, hr⟩ : ∃ r : Nat, j % 8 = r := ⟨_, rfl⟩
          obtain ⟨q, hq⟩ : ∃ q : Nat, t * S = q := ⟨_, rfl⟩
          obtain ⟨p, hp⟩ : ∃ p : Nat, A + q + r = p := ⟨_, rfl⟩
          rw [ht, hq] at hjS
          have hpN : p < N := by omega
          have htI : (j : Int) / 8 = (t : Int) := by omega
          have hrI : (j : Int) % 8 = (r : Int) := by omega
          have hqI : (t : Int) * (S : Int) = (q : Int) := by rw [← hq]; push_cast; rfl
          have hpI : (A : Int) + (q : Int) + (r : Int) = (p : Int) := by omega
          have pb : (0 : Int) ≤ (p : Int) ∧ (p : Int) < (N : Int) := by omega
          have jb : (0 : Int) ≤ (j : Int) ∧ (j : Int) < 64 := by omega
          have qb : (0 : Int) ≤ (q : Int) ∧ (q : Int) ≤ 2800 := by omega
          have rb : (0 : Int) ≤ (r : Int) ∧ (r : Int) ≤ 8 := by omega
          have ab : (0 : Int) ≤ (A : Int) ∧ (A : Int) ≤ 200000 := by omega
          have ca := h1 p hpN
          have cs := h2 p hpN
          obtain ⟨x, hx⟩ : ∃ x, F p = x := ⟨_, rfl⟩
          rw [hx] at cs
          have LN : Hid (layN A S (srcF A S F) h0 (j + 1) = fun i => if i = p then x else layN A S (srcF A S F) h0 j i) := Lib.hid (by
            funext i
            show putOne A S (srcF A S F) (layN A S (srcF A S F) h0 j) j i = _
            unfold putOne srcF
            rw [ht, hr, hq, hp, hx])
          have HA := Lib.hid h1
          have HI := Lib.hid h2
          have HS := Lib.hid h3
          have HG := Lib.hid h4
          have sz2 := h4.size
          have e1 : IntKind.i64.wrap ((t : Int) * (S : Int)) = (q : Int) := by rw [hqI]; exact IntWalk.i64_in _ (by omega)
          clear h1 h2 h3 h4 ht hr hq hp hqI hx hjS
          go_wp2_with fail
          clear e1
          go_roundw
          case rel => exact ⟨j + 1, by omega, by go_num, by rw [LN.out]; exact HA.out.set p x, HI.out.far (fun e => hne e.symm) _, HS.out.kept (grown_set (World.grownBy.refl _ (some b)) p _) (fun e => by have := Option.some.inj e; omega), grown_set HG.out _ _⟩
          case measure => simp [intOf]; omega
        · have hA64 : Arr wr .u8 b N (copF n g a F f (k + 1)) := by
            obtain rfl : j = 64 := by omega
            rw [EN.out]; exact h1
          have hj' : 64 ≤ j := by omega
          have HA := Lib.hid hA64
          have HI := Lib.hid h2
          have HS := Lib.hid h3
          have HG := Lib.hid h4
          clear h1 h2 h3 h4 hA64
          go_wp2_with fail
          go_roundw
          case rel => exact ⟨k + 1, by omega, by go_num, HA.out, HI.out, HS.out, HG.out⟩
          case measure => simp [intOf]; omega
    · have hA6 : Arr wr .u8 b N (copF n g a F f 6) := by
        obtain rfl : k = 6 := by omega
        exact h1
      have hk' : 6 ≤ k := by omega
      have HA := Lib.hid hA6
      have HG := Lib.hid h4
      clear h1 h2 h3 h4 hA6
      go_wp2_with fail
      go_ret
      exact ⟨rfl, HA.out, HG.out⟩
end Pa
end Go.Proofs.Ytkeempljogjceaa
