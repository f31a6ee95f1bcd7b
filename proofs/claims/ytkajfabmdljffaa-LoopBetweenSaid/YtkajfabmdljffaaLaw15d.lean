/- LoopFilters. -/
import Derived.Test.YtkajfabmdljffaaLaw15c
import Derived.Test.YtkajfabmdljffaaBytesB
namespace Go.Proofs.Ytkajfabmdljffaa
open Go.RowKit

set_option maxRecDepth 100000 in
theorem LentBytes_empty (a : Addr) (c : Nat) (f : Nat → Int) (w : World) :
    Calls Try.prog 35 #[.slice (some a) 0 c] w (Lent w 0 f) := by
  obtain ⟨i0, hi, hz0, hz1, hz2⟩ := info_parts info_byte
  have LL := Lib.hid (lent_list 0 f)
  go_enter Try.func35, Try.ntmps35
  go_wp2_with (first
    | (at_builtin; (refine wpList_append_own _ rfl (.tmp 4) (.tmp 5) 44 rfl w.heap.size 5 i0 (.int .u8 0) 1 1 Try.underlying44 hi hz0 hz1 hz2 rfl (by decide) _ _ _ rfl (World.ownsRow_made w #[] 0 (Nat.le_refl _) (Nat.zero_le _) rfl) a 0 c [] rfl (by simp) (by simp) (by simp) (by unfold maxLen; omega) (by omega) (by simp) ?_); intro v' w1 hown hgr hnil; simp only [Nat.zero_add, List.nil_append] at hown; have hB1 : Below w.heap.size w w1 := ((Below.refl w.heap.size w).alloc (Nat.le_refl _) (.cells #[] 5)).grown hgr (by simp) (fun k hk => by cases hk; exact Nat.le_refl _); have OWN := Lib.hid hown; have HB1 := Lib.hid hB1; have sz := hB1.size; clear hown hgr hnil hB1)
    | (at_builtin; (refine wpList_append_own _ rfl (.tmp 7) (.tmp 8) 44 rfl w.heap.size 5 i0 (.int .u8 0) 1 1 Try.underlying44 hi hz0 hz1 hz2 rfl (by decide) _ _ _ rfl (OWN.out.alloc _) ⟨w1.heap.size, 0, none⟩ 4 4 [.int .u8 201, .int .u8 202, .int .u8 203, .int .u8 204] rfl rfl (World.news_of_block (cs := #[.int .u8 201, .int .u8 202, .int .u8 203, .int .u8 204]) (t := 5) (fr := (0, 0)) (heap_alloc_new w1 _)) (by simp [Value.oneCell']) (by unfold maxLen; omega) (by omega) (by simp; omega) ?_); intro v2 w2 hown2 hgr2 hnil2; rw [List.nil_append] at hown2; have LL' : [Value.int .u8 201, .int .u8 202, .int .u8 203, .int .u8 204] = (List.range (0 + 4)).map fun i => Value.int .u8 (lentF 0 f i) := LL.out; rw [LL'] at hown2; have hB2 : Below w.heap.size w w2 := (HB1.out.alloc sz (.cells #[.int .u8 201, .int .u8 202, .int .u8 203, .int .u8 204] 5)).grown hgr2 (by simp; omega) (fun q hq => (OWN.out.lt q hq).1); obtain ⟨g, c', hv, h1, h2, h3, h4, h5⟩ := Arr.of_own hown2 (by omega); subst hv; have HA := Lib.hid h5; have HB := Lib.hid hB2; have nb := fun W => slice_to g 4 c' 0 (by omega) W; clear hown2 hgr2 hnil2 h5 hB2 LL'))
  go_ret
  exact ⟨g, c', rfl, h1, h2, h3, h4, HA.out, HB.out⟩

theorem LentBytes_any (v : Value) (n : Nat) (f : Nat → Int) (w : World) (hn : n ≤ 1000000) (hs : Sl .u8 w v n f) :
    Calls Try.prog 35 #[v] w (Lent w n f) := by
  obtain ⟨a, c, rfl, h1, h2, h3⟩ := hs
  rcases h3 with ⟨rfl, h5⟩ | ⟨b, o, rfl, _, h4⟩
  · cases a with
    | none =>
      obtain rfl : c = 0 := h5 rfl
      exact LentBytes_nil f w
    | some a => exact LentBytes_empty a c f w
  · exact LentBytes_row b o c n f w hn h4
theorem lentF_lt {n : Nat} {f : Nat → Int} (i : Nat) (h : i < n) : lentF n f i = f i := by unfold lentF; rw [if_pos h]
theorem Lent.sl {w : World} {g c n : Nat} {f : Nat → Int} (h2 : g < w.heap.size) (h3 : n + 4 ≤ c) (h4 : c ≤ maxLen) (h : Arr w .u8 g (n + 4) (lentF n f)) : Sl .u8 w (.slice (some ⟨g, 0, none⟩) n c) n f :=
  ⟨_, c, rfl, by omega, h4, .inr ⟨g, 0, rfl, h2, fun i hi => by rw [h.ints i (by omega), lentF_lt i hi]⟩⟩
namespace Lo

theorem fN_le (n : Nat) : fN n ≤ 1000000 := by unfold fN; split <;> omega
theorem sN_le (n : Nat) (f : Nat → Int) : sN n f ≤ 1000000 := by unfold sN; split <;> (try split) <;> omega

set_option maxRecDepth 100000 in
set_option maxHeartbeats 1000000 in
theorem filters_short (v v2 : Value) (a : Option Addr) (n cap : Nat) (hv : v = .slice a n cap) (a2 : Option Addr) (m cap2 : Nat) (hv2 : v2 = .slice a2 m cap2) (f h : Nat → Int) (w : World) (hs : Sl .u8 w v n f) (hl : Sl .i64 w v2 m h) (hf : ∀ i, 0 ≤ f i ∧ f i ≤ 255) (hn : n ≤ 80) (hm : m ≤ 20) :
    Calls Try.prog 10 #[v, v2] w fun e w' => e = .returned (.bool true) ∧ Below w.heap.size w w' := by
  have SL0 := Lib.hid hs
  have SL := Lib.hid hs
  have TL0 := Lib.hid hl
  have TL := Lib.hid hl
  have HF := Lib.hid hf
  subst hv hv2
  clear hs hl hf
  go_enter Try.func10, Try.ntmps10
  go_wp2_with fail
  refine (LentBytes_any _ n f _ (by omega) SL.out).mono ?_
  rintro e w1 ⟨gi, ci, rfl, i1, i2, i3, i4, hA, b1⟩
  have LA := Lib.hid hA
  have SL := Lib.hid (SL.out.below b1)
  have TL := Lib.hid (TL.out.below b1)
  have HB := Lib.hid b1
  have z1 := b1.size
  clear hA b1
  go_wp2_with fail
  refine (CopyInts_any _ m h _ (by omega) TL.out).mono ?_
  rintro e w2 ⟨gj, cj, rfl, j1, j2, j3, j4, hA, b2⟩
  have RJ : Hid (Res .i64 w1.heap.size w2 (.slice (some ⟨gj, 0, none⟩) m cj) m h) := Lib.hid (.inr ⟨gj, cj, rfl, j1, j2, j3, j4, hA⟩)
  have LA := Lib.hid (LA.out.below b2 i2)
  have SL := Lib.hid (SL.out.below b2)
  have TL := Lib.hid (TL.out.below b2)
  have HB := Lib.hid (chain HB.out b2)
  have z2 := b2.size
  have i2' : gi < w2.heap.size := Nat.lt_of_lt_of_le i2 z2
  clear hA b2
  go_wp2_with fail
  refine (Filter_any _ n f _ (Lent.sl i2' i3 i4 LA.out) HF.out).mono ?_
  rintro e w3 ⟨va, rfl, hR, b3⟩
  have LA := Lib.hid (LA.out.below b3 i2')
  have RJ := Lib.hid (RJ.out.below b3)
  have SL := Lib.hid (SL.out.below b3)
  have TL := Lib.hid (TL.out.below b3)
  have HB := Lib.hid (chain HB.out b3)
  have OA := Lib.hid hR.own
  have RA := Lib.hid hR
  have z3 := b3.size
  have i3' : gi < w3.heap.size := Nat.lt_of_lt_of_le i2' z3
  clear hR b3
  go_wp2_with fail
  refine (rFilter_any _ n f _ SL.out HF.out).mono ?_
  rintro e w4 ⟨vb, rfl, hR, b4⟩
  have LA := Lib.hid (LA.out.below b4 i3')
  have RJ := Lib.hid (RJ.out.below b4)
  have SL := Lib.hid (SL.out.below b4)
  have TL := Lib.hid (TL.out.below b4)
  have RA := Lib.hid (RA.out.below b4)
  have HB := Lib.hid (chain HB.out b4)
  have RB := Lib.hid hR
  have z4 := b4.size
  have i4' : gi < w4.heap.size := Nat.lt_of_lt_of_le i3' z4
  clear hR b4
  go_wp2_with fail
  refine (Soften_any _ m h _ RJ.out.sl).mono ?_
  rintro e w5 ⟨vc, rfl, hR, b5⟩
  have LA := Lib.hid (LA.out.below b5 i4')
  have RJ := Lib.hid (RJ.out.below b5)
  have SL := Lib.hid (SL.out.below b5)
  have TL := Lib.hid (TL.out.below b5)
  have RA := Lib.hid (RA.out.below b5)
  have RB := Lib.hid (RB.out.below b5)
  have HB := Lib.hid (chain HB.out b5)
  have OC := Lib.hid hR.own
  have RC := Lib.hid hR
  have z5 := b5.size
  have i5' : gi < w5.heap.size := Nat.lt_of_lt_of_le i4' z5
  clear hR b5
  go_wp2_with fail
  refine (rSoften_any _ m h _ TL.out).mono ?_
  rintro e w6 ⟨vd, rfl, hR, b6⟩
  have LA := Lib.hid (LA.out.below b6 i5')
  have RJ := Lib.hid (RJ.out.below b6)
  have SL := Lib.hid (SL.out.below b6)
  have TL := Lib.hid (TL.out.below b6)
  have RA := Lib.hid (RA.out.below b6)
  have RB := Lib.hid (RB.out.below b6)
  have RC := Lib.hid (RC.out.below b6)
  have HB := Lib.hid (chain HB.out b6)
  have RD := Lib.hid hR
  have z6 := b6.size
  have i6' : gi < w6.heap.size := Nat.lt_of_lt_of_le i5' z6
  clear hR b6
  go_wp2_with fail
  refine (SameBytes_true _ _ _ _ _ _ RA.out.sl RB.out.sl (fun _ _ => rfl)).mono ?_
  rintro e w7 ⟨rfl, rfl⟩
  clear RB
  go_wp2_with fail
  refine (SameInts_true _ _ _ _ _ _ (sN_le m h) RC.out.sl RD.out.sl (fun _ _ => rfl)).mono ?_
  rintro e w7 ⟨rfl, b7⟩
  have LA := Lib.hid (LA.out.below b7 i6')
  have RJ := Lib.hid (RJ.out.below b7)
  have SL := Lib.hid (SL.out.below b7)
  have TL := Lib.hid (TL.out.below b7)
  have RA := Lib.hid (RA.out.below b7)
  have RC := Lib.hid (RC.out.below b7)
  have HB := Lib.hid (chain HB.out b7)
  have z7 := b7.size
  have i7' : gi < w7.heap.size := Nat.lt_of_lt_of_le i6' z7
  clear b7 RD
  go_wp2_with fail
  refine (OverBytes_any _ _ _ _ _ (fN_le n) RA.out).mono ?_
  rintro e w8 ⟨rfl, g8⟩
  have LA := Lib.hid (LA.out.grown g8 (fun e => by have := (OA.out gi e.symm).1; omega))
  have RJ := Lib.hid (RJ.out.grown g8 (fun g hg e => by have := (OA.out g hg).1; have e1 : gj = g := Option.some.inj e; omega))
  have RC := Lib.hid (RC.out.grown g8 (fun g hg e => by have := (OA.out g hg).2; have := (OC.out g e).1; omega))
  have HB := Lib.hid (HB.out.grown g8 HB.out.size (fun g hg => by have := (OA.out g hg).1; omega))
  have z8 := g8.size
  clear g8
  go_wp2_with fail
  refine (OverInts_any _ _ _ _ _ (sN_le m h) RC.out).mono ?_
  rintro e w9 ⟨rfl, g9⟩
  have LA := Lib.hid (LA.out.grown g9 (fun e => by have := (OC.out gi e.symm).1; omega))
  have RJ := Lib.hid (RJ.out.grown g9 (fun g hg e => by have := (OC.out g hg).1; have e1 : gj = g := Option.some.inj e; omega))
  have HB := Lib.hid (HB.out.grown g9 HB.out.size (fun g hg => by have := (OC.out g hg).1; omega))
  have z9 := g9.size
  clear g9
  go_wp2_with fail
  refine (KeptBytes_row gi ci n a cap f _ (by omega) i3 i4 LA.out (SL0.out.below HB.out)).mono ?_
  rintro e w10 ⟨rfl, b10⟩
  have RJ := Lib.hid (RJ.out.below b10)
  have HB := Lib.hid (chain HB.out b10)
  clear b10
  go_wp2_with fail
  refine (SameInts_true _ _ _ _ _ _ (by omega) RJ.out.sl (TL0.out.below HB.out) (fun _ _ => rfl)).mono ?_
  rintro e w11 ⟨rfl, b11⟩
  have HB := Lib.hid (chain HB.out b11)
  clear b11
  go_wp2_with fail
  refine (awake_true _).mono ?_
  rintro e w12 ⟨rfl, b12⟩
  have HB := Lib.hid (chain HB.out b12)
  clear b12
  go_wp2_with fail
  go_ret
  exact ⟨rfl, HB.out⟩

theorem byte_bd {w : World} {a : Option Addr} {len cap : Nat} {zs : List Int} (h : IsRow .u8 w a len cap zs) (i : Nat) : 0 ≤ zs.getD i 0 ∧ zs.getD i 0 ≤ 255 := by
  rw [List.getD_eq_getElem?_getD]
  rcases h with ⟨rfl, rfl, rfl, rfl⟩ | ⟨_, _, _, _, _, _, hw⟩
  · simp
  · by_cases hi : i < zs.length
    · rw [List.getElem?_eq_getElem hi]
      have := hw _ (List.getElem_mem hi)
      have e1 : IntKind.u8.min = 0 := rfl
      have e2 : IntKind.u8.max = 255 := rfl
      simp only [Lit.wf, e1, e2, Bool.and_eq_true, decide_eq_true_eq] at this
      simpa using this
    · rw [List.getElem?_eq_none (by omega)]; simp
theorem LoopFilters_walk (a : Option Addr) (n cap : Nat) (zs : List Int) (a2 : Option Addr) (m cap2 : Nat) (ys : List Int) (w : World) (w0 : IsRow .u8 w a n cap zs) (w1 : IsRow .i64 w a2 m cap2 ys) :
    Calls Try.prog 10 #[.slice a n cap, .slice a2 m cap2] w fun e w' => e = .returned (.bool true) ∧ Below w.heap.size w w' := by
  by_cases h : n ≤ 80 ∧ m ≤ 20
  · have hbd := byte_bd w0
    obtain ⟨hs, _⟩ := w0.sl
    obtain ⟨hl, _⟩ := w1.sl
    exact filters_short _ _ a n cap rfl a2 m cap2 rfl _ _ w hs hl hbd h.1 h.2
  · clear w0 w1
    by_cases hn : n ≤ 80
    · have hm : ¬ m ≤ 20 := fun q => h ⟨hn, q⟩
      clear h
      go_enter Try.func10, Try.ntmps10
      go_wp2_with (go_at_call 34; refine (awake_true _).mono ?_; rintro e w1 ⟨rfl, hw⟩)
      go_ret
      exact ⟨rfl, hw⟩
    · clear h
      go_enter Try.func10, Try.ntmps10
      go_wp2_with (go_at_call 34; refine (awake_true _).mono ?_; rintro e w1 ⟨rfl, hw⟩)
      go_ret
      exact ⟨rfl, hw⟩
end Lo
end Go.Proofs.Ytkajfabmdljffaa
