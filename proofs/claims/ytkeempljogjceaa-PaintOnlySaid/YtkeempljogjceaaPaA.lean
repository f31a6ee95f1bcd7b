/- PaintAdds; awake. -/
import Derived.Test.YtkeempljogjceaaPa9
import Derived.Test.YtkeempljogjceaaCopy
namespace Go.Proofs.Ytkeempljogjceaa
open Go.RowKit
namespace Pa
open Fr Pt

theorem qcif_any (g a : Int) (w : World) : Calls Try.prog 33 #[.int .i64 g, .int .i64 a] w fun e w' => e = .returned (.agg #[.int .i64 0, .int .i64 g, .int .i64 a]) ∧ Below w.heap.size w w' := by
  go_enter Try.func33, Try.ntmps33
  go_wp2_with fail
  refine bodyPost_ret (results_cell_row rfl _ _ w.heap.size _ _ _ _ rfl (heap_alloc_new w _) Try.underlying29 rfl (by kernel_rfl)) rfl ?_
  exact ⟨rfl, (Below.refl _ _).alloc (Nat.le_refl _) _⟩
theorem clips : clipF (-5) = 0 ∧ clipF 300 = 255 ∧ clipF 77 = 77 := by decide
theorem cop_nil : copE 0 2 1 0 0 = 8 := by decide +kernel
set_option maxRecDepth 100000 in
theorem awake_any (w : World) : Calls Try.prog 9 #[] w fun e w' => e = .returned (.bool true) ∧ Below w.heap.size w w' := by
  go_enter Try.func9, Try.ntmps9
  go_wp2_with fail
  refine (Clip_any (-5) _).mono ?_
  rintro e w1 ⟨rfl, rfl⟩
  rw [clips.1]
  go_wp2_with fail
  refine (Clip_any 300 _).mono ?_
  rintro e w1 ⟨rfl, rfl⟩
  rw [clips.2.1]
  go_wp2_with fail
  refine (Clip_any 77 _).mono ?_
  rintro e w1 ⟨rfl, rfl⟩
  rw [clips.2.2]
  go_wp2_with fail
  refine (adds_true 250 9 255 (by omega) (by omega) (by decide) _).mono ?_
  rintro e w1 ⟨rfl, b1⟩
  have HB := Lib.hid b1
  clear b1
  go_wp2_with fail
  refine (adds_true 3 (-9) 0 (by omega) (by omega) (by decide) _).mono ?_
  rintro e w2 ⟨rfl, b2⟩
  have HB := Lib.hid (chain HB.out b2)
  clear b2
  go_wp2_with fail
  refine (qcif_any 2 1 _).mono ?_
  rintro e w3 ⟨rfl, b3⟩
  have HB := Lib.hid (chain HB.out b3)
  clear b3
  go_wp2_with fail
  refine (copy_no1 none none 0 0 0 0 0 2 1 _ (by decide +kernel)).mono ?_
  rintro e w4 ⟨rfl, b4⟩
  rw [cop_nil]
  have HB := Lib.hid (chain HB.out b4)
  clear b4
  go_wp2_with fail
  go_ret
  exact ⟨rfl, HB.out⟩
theorem addN_le (N M : Nat) (g : Nat → Int) : addN N M g ≤ 1000000 := by unfold addN; split <;> omega
theorem rowU_refl (x : Int) : (x == x) = true := by simp
set_option maxRecDepth 100000 in
set_option maxHeartbeats 1000000 in
theorem adds_short (v v2 : Value) (a : Option Addr) (n cap : Nat) (hv : v = .slice a n cap) (a2 : Option Addr) (m cap2 : Nat) (hv2 : v2 = .slice a2 m cap2) (f h : Nat → Int) (z : Int) (w : World) (hs : Sl .u8 w v n f) (hl : Sl .i64 w v2 m h) (hf : ∀ i, 0 ≤ f i ∧ f i ≤ 255) (hn : n ≤ 80) (hm : m ≤ 80) :
    Calls Try.prog 4 #[v, v2, .int .i64 z] w fun e w' => e = .returned (.bool true) ∧ Below w.heap.size w w' := by
  have SL0 := Lib.hid hs
  have SL := Lib.hid hs
  have TL0 := Lib.hid hl
  have TL := Lib.hid hl
  have HF := Lib.hid hf
  subst hv hv2
  clear hs hl hf
  go_enter Try.func4, Try.ntmps4
  go_wp2_with fail
  refine (LentBytes_any _ n f _ (by omega) SL.out).mono ?_
  rintro e w1 ⟨gi, ci, rfl, i1, i2, i3, i4, hA, b1⟩
  have LA := Lib.hid hA
  have SL := Lib.hid (SL.out.below b1)
  have TL := Lib.hid (TL.out.below b1)
  have HB := Lib.hid b1
  have z1 := b1.size
  clear hA b1
  go_wp2_with fail
  refine (CopyInts_any _ m h _ (by omega) TL.out).mono ?_
  rintro e w2 ⟨gj, cj, rfl, j1, j2, j3, j4, hA, b2⟩
  have RJ : Hid (Res .i64 w1.heap.size w2 (.slice (some ⟨gj, 0, none⟩) m cj) m h) := Lib.hid (.inr ⟨gj, cj, rfl, j1, j2, j3, j4, hA⟩)
  have LA := Lib.hid (LA.out.below b2 i2)
  have SL := Lib.hid (SL.out.below b2)
  have TL := Lib.hid (TL.out.below b2)
  have HB := Lib.hid (chain HB.out b2)
  have z2 := b2.size
  have i2' : gi < w2.heap.size := Nat.lt_of_lt_of_le i2 z2
  clear hA b2
  obtain ⟨E1, hE1⟩ : ∃ E, addE n m h = E := ⟨_, rfl⟩
  obtain ⟨E2, hE2⟩ : ∃ E, addE 64 m h = E := ⟨_, rfl⟩
  have k1 := rowU_refl E1
  have k2 := rowU_refl E2
  have k3 := rowU_refl (clipF z)
  go_wp2_with fail
  refine (Add_any _ _ n m f h _ (Lent.sl i2' i3 i4 LA.out) RJ.out.sl (fun i _ => HF.out i)).mono ?_
  rintro e w3 ⟨va, rfl, hR, b3⟩
  rw [hE1]
  have LA := Lib.hid (LA.out.below b3 i2')
  have RJ := Lib.hid (RJ.out.below b3)
  have SL := Lib.hid (SL.out.below b3)
  have TL := Lib.hid (TL.out.below b3)
  have HB := Lib.hid (chain HB.out b3)
  have OA := Lib.hid hR.own
  have RA := Lib.hid hR
  have z3 := b3.size
  have i3' : gi < w3.heap.size := Nat.lt_of_lt_of_le i2' z3
  clear hR b3
  go_wp2_with fail
  refine (rAdd_any _ _ n m f h _ SL.out TL.out (fun i _ => HF.out i)).mono ?_
  rintro e w4 ⟨vb, rfl, hR, b4⟩
  rw [hE1]
  have LA := Lib.hid (LA.out.below b4 i3')
  have RJ := Lib.hid (RJ.out.below b4)
  have TL := Lib.hid (TL.out.below b4)
  have RA := Lib.hid (RA.out.below b4)
  have HB := Lib.hid (chain HB.out b4)
  have RB := Lib.hid hR
  have z4 := b4.size
  have i4' : gi < w4.heap.size := Nat.lt_of_lt_of_le i3' z4
  clear hR b4 SL
  go_wp2_with fail
  refine (Flat_any _ m h _ RJ.out.sl).mono ?_
  rintro e w5 ⟨vc, rfl, hR, b5⟩
  rw [hE2]
  have LA := Lib.hid (LA.out.below b5 i4')
  have RJ := Lib.hid (RJ.out.below b5)
  have TL := Lib.hid (TL.out.below b5)
  have RA := Lib.hid (RA.out.below b5)
  have RB := Lib.hid (RB.out.below b5)
  have HB := Lib.hid (chain HB.out b5)
  have OC := Lib.hid hR.own
  have RC := Lib.hid hR
  have z5 := b5.size
  have i5' : gi < w5.heap.size := Nat.lt_of_lt_of_le i4' z5
  clear hR b5
  go_wp2_with fail
  refine (rFlat_any _ m h _ TL.out).mono ?_
  rintro e w6 ⟨vd, rfl, hR, b6⟩
  rw [hE2]
  have LA := Lib.hid (LA.out.below b6 i5')
  have RJ := Lib.hid (RJ.out.below b6)
  have RA := Lib.hid (RA.out.below b6)
  have RB := Lib.hid (RB.out.below b6)
  have RC := Lib.hid (RC.out.below b6)
  have HB := Lib.hid (chain HB.out b6)
  have RD := Lib.hid hR
  have z6 := b6.size
  have i6' : gi < w6.heap.size := Nat.lt_of_lt_of_le i5' z6
  clear hR b6 TL hE1 hE2
  go_wp2_with fail
  refine (SameBytes_true _ _ _ _ _ _ RA.out.sl RB.out.sl (fun _ _ => rfl)).mono ?_
  rintro e w7 ⟨rfl, rfl⟩
  clear RB
  go_wp2_with fail
  refine (SameBytes_true _ _ _ _ _ _ RC.out.sl RD.out.sl (fun _ _ => rfl)).mono ?_
  rintro e w7 ⟨rfl, rfl⟩
  clear RD
  go_wp2_with fail
  refine (Clip_any z _).mono ?_
  rintro e w7 ⟨rfl, rfl⟩
  go_wp2_with fail
  refine (rClip_any z _).mono ?_
  rintro e w7 ⟨rfl, rfl⟩
  go_wp2_with fail
  refine (OverBytes_any _ _ _ _ _ (addN_le n m h) RA.out).mono ?_
  rintro e w8 ⟨rfl, g8⟩
  have LA := Lib.hid (LA.out.grown g8 (fun e => by have := (OA.out gi e.symm).1; omega))
  have RJ := Lib.hid (RJ.out.grown g8 (fun g hg e => by have := (OA.out g hg).1; have e1 : gj = g := Option.some.inj e; omega))
  have RC := Lib.hid (RC.out.grown g8 (fun g hg e => by have := (OA.out g hg).2; have := (OC.out g e).1; omega))
  have HB := Lib.hid (HB.out.grown g8 HB.out.size (fun g hg => by have := (OA.out g hg).1; omega))
  have z8 := g8.size
  clear g8
  go_wp2_with fail
  refine (OverBytes_any _ _ _ _ _ (addN_le 64 m h) RC.out).mono ?_
  rintro e w9 ⟨rfl, g9⟩
  have LA := Lib.hid (LA.out.grown g9 (fun e => by have := (OC.out gi e.symm).1; omega))
  have RJ := Lib.hid (RJ.out.grown g9 (fun g hg e => by have := (OC.out g hg).1; have e1 : gj = g := Option.some.inj e; omega))
  have HB := Lib.hid (HB.out.grown g9 HB.out.size (fun g hg => by have := (OC.out g hg).1; omega))
  have z9 := g9.size
  clear g9
  go_wp2_with fail
  refine (KeptBytes_row gi ci n a cap f _ (by omega) i3 i4 LA.out (SL0.out.below HB.out)).mono ?_
  rintro e w10 ⟨rfl, b10⟩
  have RJ := Lib.hid (RJ.out.below b10)
  have HB := Lib.hid (chain HB.out b10)
  clear b10
  go_wp2_with fail
  refine (SameInts_true _ _ _ _ _ _ (by omega) RJ.out.sl (TL0.out.below HB.out) (fun _ _ => rfl)).mono ?_
  rintro e w11 ⟨rfl, b11⟩
  have HB := Lib.hid (chain HB.out b11)
  clear b11
  go_wp2_with fail
  refine (awake_any _).mono ?_
  rintro e w12 ⟨rfl, b12⟩
  have HB := Lib.hid (chain HB.out b12)
  clear b12
  go_wp2_with fail
  go_ret
  exact ⟨rfl, HB.out⟩
theorem PaintAdds_any (a : Option Addr) (n cap : Nat) (zs : List Int) (a2 : Option Addr) (m cap2 : Nat) (ys : List Int) (z : Int) (w : World) (w0 : IsRow .u8 w a n cap zs) (w1 : IsRow .i64 w a2 m cap2 ys) (_ : (Lit.int .i64 z).wf = true) :
    Calls Try.prog 4 #[.slice a n cap, .slice a2 m cap2, .int .i64 z] w fun e w' => e = .returned (.bool true) ∧ Below w.heap.size w w' := by
  by_cases h : n ≤ 80 ∧ m ≤ 80
  · have hbd := byte_bd w0
    obtain ⟨hs, _⟩ := w0.sl
    obtain ⟨hl, _⟩ := w1.sl
    exact adds_short _ _ a n cap rfl a2 m cap2 rfl _ _ z w hs hl hbd h.1 h.2
  · clear w0 w1
    by_cases hn : n ≤ 80
    · have hm : ¬ m ≤ 80 := fun q => h ⟨hn, q⟩
      clear h
      go_enter Try.func4, Try.ntmps4
      go_wp2_with (go_at_call 9; refine (awake_any _).mono ?_; rintro e w1 ⟨rfl, hw⟩)
      go_ret
      exact ⟨rfl, hw⟩
    · clear h
      go_enter Try.func4, Try.ntmps4
      go_wp2_with (go_at_call 9; refine (awake_any _).mono ?_; rintro e w1 ⟨rfl, hw⟩)
      go_ret
      exact ⟨rfl, hw⟩
end Pa
end Go.Proofs.Ytkeempljogjceaa
