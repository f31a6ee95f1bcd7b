/- MotionFetches. -/
import Derived.Test.YtkddahboclmboaaRf3
import Derived.Test.YtkddahboclmboaaSpotIn
import Derived.Lib.MinMax
namespace Go.Proofs.Ytkddahboclmboaa
open Go.RowKit
namespace Rf
open Fr Mo

theorem lent_sl {w : World} {g c n : Nat} {F : Nat → Int} (h : Arr w .u8 g (n + 4) (lentF n F)) (hc : n + 4 ≤ c) (hm : c ≤ maxLen) : Sl .u8 w (.slice (some ⟨g, 0, none⟩) n c) n F :=
  ⟨_, c, rfl, by omega, hm, .inr ⟨g, 0, rfl, h.lt (by omega), fun i hi => by
    have h1 := (h i (by omega)).1
    rw [show lentF n F i = F i by unfold lentF; rw [if_pos hi]] at h1
    rw [Nat.zero_add]; exact h1⟩⟩
theorem part_sl {w : World} {g n N : Nat} {F : Nat → Int} (h : Arr w .u8 g N F) (h0 : 0 < N) (hn : n ≤ N) (hm : N ≤ maxLen) : Sl .u8 w (.slice (some ⟨g, 0, none⟩) n N) n F :=
  ⟨_, N, rfl, hn, hm, .inr ⟨g, 0, rfl, h.lt h0, fun i hi => h.ints i (by omega)⟩⟩
set_option maxRecDepth 100000 in
set_option maxHeartbeats 4000000 in
theorem MotionFetches_any (n g a k x y sa sb ls : Int) (w : World) (_ : (Lit.int .i64 k).wf = true) (hx : (Lit.int .i64 x).wf = true) (hy : (Lit.int .i64 y).wf = true) (_ : (Lit.int .i64 sa).wf = true) (_ : (Lit.int .i64 sb).wf = true) (_ : (Lit.int .i64 ls).wf = true) :
    Calls Try.prog 3 #[.agg #[.int .i64 n, .int .i64 g, .int .i64 a], .int .i64 k, .int .i64 x, .int .i64 y, .int .i64 sa, .int .i64 sb, .int .i64 ls] w fun e w' => e = .returned (.bool true) ∧ Below w.heap.size w w' := by
  obtain ⟨m, hm⟩ : ∃ m, n % 2 = m := ⟨_, rfl⟩
  have hm01 : m = 0 ∨ m = 1 := by omega
  obtain ⟨N, hN⟩ : ∃ N : Nat, (N : Int) = zV m := ⟨(zV m).toNat, by rcases hm01 with rfl | rfl <;> rfl⟩
  have Nb : 38016 ≤ N ∧ N ≤ 152064 := by rcases hm01 with rfl | rfl <;> (have : (N : Int) = _ := hN; simp [zV] at this; omega)
  have Nm : N ≤ maxLen := Nat.le_trans Nb.2 (by decide)
  obtain ⟨N', hN'⟩ : ∃ N' : Nat, (N : Int) - ls % 101 = (N' : Int) := ⟨((N : Int) - ls % 101).toNat, by have := Int.emod_lt_of_pos ls (show (0 : Int) < 101 by omega); omega⟩
  have bN' : 0 < N' ∧ N' ≤ N := by have h1 := Int.emod_lt_of_pos ls (show (0 : Int) < 101 by omega); have h2 := Int.emod_nonneg ls (show (101 : Int) ≠ 0 by omega); omega
  obtain ⟨q, hq⟩ : ∃ q, ls % 101 = q := ⟨_, rfl⟩
  have bq : 0 ≤ q ∧ q ≤ 100 := by omega
  rw [hq] at hN'
  have HQ := Lib.hid hq
  have HM := Lib.hid hm
  have H01 := Lib.hid hm01
  have HN := Lib.hid hN
  have mx : ∀ w', (Builtin.max_ #[3, 3] 3 #[.int .i64 0, .int .i64 ((N : Int) - q)]).run Try.prog w' = .ok (.int .i64 (N' : Int)) w' := fun w' => by rw [Lib.run_max_ints, hN', show max 0 (N' : Int) = (N' : Int) by omega]
  clear hm hm01 hN hq
  go_enter Try.func3, Try.ntmps3
  go_wp2_with fail
  refine (Pick_any n 2 _ (by omega) (by omega)).mono ?_
  rintro e w1 ⟨rfl, rfl⟩
  rw [HM.out]
  have HS : Hid (Spt (w.alloc (.cells #[.int .i64 n, .int .i64 g, .int .i64 a] 23)) w.heap.size n g a) := Lib.hid (heap_alloc_new w _)
  have HB := Lib.hid ((Below.refl w.heap.size w).alloc (Nat.le_refl _) (.cells #[.int .i64 n, .int .i64 g, .int .i64 a] 23))
  go_wp2_with fail
  refine (Scene_any m sa sb N H01.out HN.out _).mono ?_
  rintro e w2 ⟨gi, F, rfl, i1, i2, hA, b2⟩
  have HS := Lib.hid (HS.out.below b2)
  have HI := Lib.hid hA
  have HB := Lib.hid (chain HB.out b2)
  clear hA b2 i1
  go_wp2_with fail
  refine (Pick_any ls 101 _ (by omega) (by omega)).mono ?_
  rintro e w3 ⟨rfl, rfl⟩
  rw [HQ.out]
  have e1 : IntKind.i64.wrap ((N : Int) - q) = (N : Int) - q := IntWalk.i64_in _ (by omega)
  have sl := fun w' => slice_to gi N N N' bN'.2 w'
  have HNN := Lib.hid hN'
  clear hN'
  go_wp2_with fail
  refine (LentBytes_row gi 0 N N' F _ (by omega) (fun i hi => HI.out.ints i (by omega))).mono ?_
  rintro e w4 ⟨gL, cL, rfl, l1, l2, l3, l4, hL, b4⟩
  have HS := Lib.hid (HS.out.below b4)
  have HI := Lib.hid (HI.out.below b4 i2)
  have HL := Lib.hid hL
  have z4 := b4.size
  have HB := Lib.hid (chain HB.out b4)
  have Z4 := Lib.hid HB.out.size
  clear hL b4
  obtain ⟨s0, s1, s2⟩ := HS.out.cells
  go_wp2_with fail
  refine (Fetch_any _ N' F n g a k x y _ (lent_sl HL.out l3 l4) hx hy).mono ?_
  rintro e w5 ⟨v1, rfl, hR, b5⟩
  obtain ⟨E, hE⟩ : ∃ E, fetE (N' : Int) n g a k x y = E := ⟨_, rfl⟩
  obtain ⟨M, hM⟩ : ∃ M, fetN (N' : Int) n g a k x y = M := ⟨_, rfl⟩
  have M64 : M ≤ 64 := by rw [← hM]; unfold fetN; split <;> omega
  rw [hE]
  rw [hM] at hR
  have HR1 := Lib.hid hR
  have OR := Lib.hid hR.own
  have HS := Lib.hid (HS.out.below b5)
  have HI := Lib.hid (HI.out.below b5 (by omega))
  have HL := Lib.hid (HL.out.below b5 l2)
  have z5 := b5.size
  have HB := Lib.hid (chain HB.out b5)
  clear hR b5 s0 s1 s2
  obtain ⟨s0, s1, s2⟩ := HS.out.cells
  go_wp2_with fail
  refine (rFetch_any _ N' F n g a k x y _ (part_sl HI.out (by omega) bN'.2 Nm) hx hy).mono ?_
  rintro e w6 ⟨v2, rfl, hR, b6⟩
  rw [hE]
  rw [hM] at hR
  have HR2 := Lib.hid hR
  have HR1 := Lib.hid (HR1.out.below b6)
  have HS := Lib.hid (HS.out.below b6)
  have HI := Lib.hid (HI.out.below b6 (by omega))
  have HL := Lib.hid (HL.out.below b6 (by omega))
  have z6 := b6.size
  have HB := Lib.hid (chain HB.out b6)
  have kE : (E == E) = true := by simp
  obtain ⟨V, hV⟩ : ∃ V, vE n g a x y = V := ⟨_, rfl⟩
  have kV : (V == V) = true := by simp
  have SB : ∀ p : Past w6, Calls Try.prog 19 #[v1, v2] p.now fun e w' => e = .returned (.bool true) ∧ Below p.now.heap.size p.now w' := fun p =>
    (SameBytes_true v1 v2 M _ _ p.now (HR1.out.sl.below p.kept) (HR2.out.sl.below p.kept) (fun _ _ => rfl)).mono (by rintro e w' ⟨rfl, rfl⟩; exact ⟨rfl, Below.refl _ _⟩)
  have FT : ∀ p : Past w6, Calls Try.prog 20 #[.agg #[.int .i64 n, .int .i64 g, .int .i64 a], .int .i64 x, .int .i64 y] p.now fun e w' => e = .returned (.int .i64 V) ∧ Below p.now.heap.size p.now w' := fun p => by
    rw [← hV]; exact Fits_any n g a x y p.now hx hy
  have RF : ∀ p : Past w6, Calls Try.prog 21 #[.agg #[.int .i64 n, .int .i64 g, .int .i64 a], .int .i64 x, .int .i64 y] p.now fun e w' => e = .returned (.int .i64 V) ∧ Below p.now.heap.size p.now w' := fun p => by
    rw [← hV]; exact rFits_any n g a x y p.now
  clear hR b6 s0 s1 s2 hE hM hV
  obtain ⟨s0, s1, s2⟩ := HS.out.cells
  have p0 := Past.cell s0
  have p1 := Past.cell s1
  have p2 := Past.cell s2
  go_wp2_with fail
  refine wp_region_past (by kernel_rfl) (by kernel_rfl) ?_
  repeat (go_big_quiet_step (first | (go_at_call 19; exact past_call (SB _)) | (go_at_call 20; exact past_call (FT _)) | (go_at_call 21; exact past_call (RF _))))
  refine wpQuiet_nil ?_
  rintro w7 ⟨⟨_, h7⟩, rfl⟩
  have HR1 := Lib.hid (HR1.out.below h7)
  have HI := Lib.hid (HI.out.below h7 (by omega))
  have HL := Lib.hid (HL.out.below h7 (by omega))
  have z7 := h7.size
  have HB := Lib.hid (chain HB.out h7)
  clear SB FT RF p0 p1 p2 s0 s1 s2 h7
  go_wp2_with fail
  refine (OverBytes_any v1 M _ _ _ (by omega) HR1.out).mono ?_
  rintro e w8 ⟨rfl, g8⟩
  have HI := Lib.hid (HI.out.grown g8 (fun e => by have := (OR.out gi e.symm).1; omega))
  have HL := Lib.hid (HL.out.grown g8 (fun e => by have := (OR.out gL e.symm).1; omega))
  have z8 := g8.size
  have HB := Lib.hid (HB.out.grown g8 HB.out.size (fun b e => by have h1 := (OR.out b e).1; have h2 := Z4.out; omega))
  clear g8
  go_wp2_with fail
  refine (KeptBytes_row gL cL N' (some ⟨gi, 0, none⟩) N F _ (by omega) l3 l4 HL.out (part_sl HI.out (by omega) bN'.2 Nm)).mono ?_
  rintro e w9 ⟨rfl, b9⟩
  have HB := Lib.hid (chain HB.out b9)
  clear b9
  go_wp2_with fail
  refine (awake_any _).mono ?_
  rintro e w10 ⟨rfl, b10⟩
  have HB := Lib.hid (chain HB.out b10)
  clear b10
  go_wp2_with fail
  go_ret
  exact ⟨rfl, HB.out⟩
end Rf
end Go.Proofs.Ytkddahboclmboaa
