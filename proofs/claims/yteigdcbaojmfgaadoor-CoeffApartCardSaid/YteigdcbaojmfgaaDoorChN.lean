/- The document's trees of codes: Make. -/
import Derived.Test.YteigdcbaojmfgaaDoorChM
namespace Go.Proofs.YteigdcbaojmfgaaDoor
open Go.RowKit
set_option linter.unusedSimpArgs false
set_option linter.unusedVariables false
namespace Cf
theorem info_i64 : (Tryd.prog.info? 3).map (fun i => (i.zero, i.size, i.bytes)) = some (some (.int .i64 0), 1, 8) := by kernel_rfl
/-- n codes in a block from its first cell on. -/
def Strs (w : World) (g n : Nat) (C : Nat → List Bool) : Prop := ∀ i, i < n → w.cell? ⟨g, i, none⟩ = some (sv (cs (C i)))
theorem Strs.below {w w' : World} {g n B : Nat} {C : Nat → List Bool} (h : Strs w g n C) (hb : Below B w w') (hg : g < B) : Strs w' g n C := fun i hi => (hb.cell (p := ⟨g, i, none⟩) hg).trans (h i hi)
theorem Strs.lt {w : World} {g n : Nat} {C : Nat → List Bool} (h : Strs w g n C) (hn : 0 < n) : g < w.heap.size := World.block_lt_of_cell? w _ (h 0 hn)
def strC (n : Nat) (C : Nat → List Bool) : List Value := (List.range n).map fun i => sv (cs (C i))
theorem strC_get {n : Nat} {C : Nat → List Bool} {i : Nat} (h : i < n) : (strC n C)[i]? = some (sv (cs (C i))) := by simp [strC, h]
theorem Strs.news {w : World} {g n : Nat} {C : Nat → List Bool} (h : Strs w g n C) : ∀ j u, (strC n C)[j]? = some u → w.cell? ((⟨g, 0, none⟩ : Addr).add j) = some u := by
  intro j u hu
  have hj : j < n := by
    have := (List.getElem?_eq_some_iff.1 hu).1
    simpa [strC] using this
  rw [show (⟨g, 0, none⟩ : Addr).add j = ⟨g, j, none⟩ by unfold Addr.add; split <;> simp_all, h j hj]
  rw [strC_get hj] at hu
  exact hu
theorem Strs.of_own {w : World} {B g c n : Nat} {C : Nat → List Bool} (h : w.ownsRow B 9 1 (.slice (some ⟨g, 0, none⟩) n c) n (strC n C)) : Strs w g n C := fun i hi => by rw [h.cellAt i (by omega)]; exact strC_get hi
/-- a tree of codes lies in block t. -/
structure Tr (B : Nat) (w : World) (t n : Nat) (C : Nat → List Bool) (f : Nat → Int) : Prop where
  ex : ∃ g1 c1 g2 c2, w.cell? ⟨t, 0, none⟩ = some (.slice (some ⟨g1, 0, none⟩) n c1) ∧ w.cell? ⟨t, 1, none⟩ = some (.slice (some ⟨g2, 0, none⟩) n c2) ∧ Strs w g1 n C ∧ Ints w .i64 g2 0 n f ∧ g1 < w.heap.size ∧ g2 < w.heap.size
theorem Tr.below {B : Nat} {w w' : World} {t n : Nat} {C : Nat → List Bool} {f : Nat → Int} (h : Tr B w t n C f) (hb : Below w.heap.size w w') : Tr B w' t n C f := by
  obtain ⟨g1, c1, g2, c2, h1, h2, h3, h4, h5, h6⟩ := h.ex
  exact ⟨g1, c1, g2, c2, (hb.cell (World.block_lt_of_cell? _ _ h1)).trans h1, (hb.cell (World.block_lt_of_cell? _ _ h2)).trans h2, h3.below hb h5, h4.below hb h6, Nat.lt_of_lt_of_le h5 hb.size, Nat.lt_of_lt_of_le h6 hb.size⟩
/-- what Make comes to. -/
def MadeT (w : World) (n : Nat) (C : Nat → List Bool) (f : Nat → Int) (e : Ending) (w' : World) : Prop :=
  ∃ t, e = .returned (.tuple #[.pointer (some ⟨t, 0, none⟩), .int .i64 0]) ∧ Tr w.heap.size w' t n C f ∧ Below w.heap.size w w'
section
set_option maxRecDepth 100000
set_option maxHeartbeats 4000000
set_option linter.unusedVariables false
theorem Make_any (n g1 c1 g2 c2 : Nat) (C : Nat → List Bool) (f : Nat → Int) (w : World) (hn : 0 < n) (hn2 : n ≤ 300) (h1 : Strs w g1 n C) (h2 : Ints w .i64 g2 0 n f) (hg : ∀ i, i < n → 1 ≤ (C i).length ∧ (C i).length ≤ 24) (ha : ∀ i, i < n → ∀ j, j < n → i ≠ j → begB (cs (C i)) (cs (C j)) = false) :
    Calls Tryd.prog 53 #[.slice (some ⟨g1, 0, none⟩) n c1, .slice (some ⟨g2, 0, none⟩) n c2] w (MadeT w n C f) := by
  obtain ⟨i0, hi, hz0, hz1, hz2⟩ := info_parts info_i64
  obtain ⟨j0, gi, gz0, gz1, gz2⟩ := info_parts info_str
  have H1 := Lib.hid h1
  have H2 := Lib.hid h2
  have HG := Lib.hid hg
  have HA := Lib.hid ha
  have L1 := h1.lt hn
  have L2 := h2.lt hn
  have hne : ((n : Int) == 0) = false := by rw [beq_eq_false_iff_ne]; omega
  have hn3 : ¬ (n : Int) > 300 := by omega
  clear h1 h2 hg ha
  go_enter Tryd.func53, Tryd.ntmps53
  go_wp2_with fail
  go_loop [6] (fun i => ∃ k : Nat, k ≤ n ∧ i = .int .i64 k) (fun i => n - (intOf i).toNat)
  case atStart => exact ⟨0, by omega, rfl⟩
  case round =>
    obtain ⟨k, hk, rfl⟩ := hrel
    by_cases hkn : k < n
    · have t1 : (k : Int) < (n : Int) := by omega
      have c0 := H1.out k hkn
      have CG := Lib.hid (rgood_any (C k) w (HG.out k hkn).1 (HG.out k hkn).2)
      obtain ⟨S, hS⟩ : ∃ S : ByteArray, sv (cs (C k)) = .string S := ⟨_, rfl⟩
      rw [hS] at c0 CG
      clear hS
      go_wp2_with (go_at_call 65; refine CG.out.mono ?_; rintro e w1 ⟨rfl, rfl⟩)
      go_round
      case rel => exact ⟨k + 1, by omega, by go_num⟩
      case measure => simp [intOf]; omega
    · obtain rfl : k = n := by omega
      have t1 : ¬ (k : Int) < (k : Int) := by omega
      clear hkn hk
      go_wp2_with fail
      go_loopw [7] (fun i wr => ∃ j : Nat, j ≤ k ∧ i = .int .i64 j ∧ Hid (Below w.heap.size w wr)) (fun i _ => k - (intOf i).toNat)
      case atStart => exact ⟨0, by omega, rfl, Lib.hid (Below.refl _ _)⟩
      case round =>
        obtain ⟨j, hj, rfl, HB⟩ := hrel
        by_cases hjk : j < k
        · have t2 : (j : Int) < (k : Int) := by omega
          go_wp2_with fail
          obtain ⟨wo, rfl⟩ : ∃ wo : World, wo = wr := ⟨_, rfl⟩
          go_loopw [8] (fun i wr => ∃ m : Nat, m ≤ k ∧ i = .int .i64 m ∧ Hid (Below w.heap.size w wr)) (fun i _ => k - (intOf i).toNat)
          case atStart => exact ⟨0, by omega, rfl, HB⟩
          case round =>
            obtain ⟨m, hm, rfl, HB2⟩ := hrel
            by_cases hmk : m < k
            · have t3 : (m : Int) < (k : Int) := by omega
              have s1 := H1.out.below HB2.out L1
              have c0 := s1 j hjk
              have c1' := s1 m hmk
              by_cases hjm : j = m
              · have t4 : ((j : Int) != (m : Int)) = false := by subst hjm; simp
                have t5 : ((j : Int) == (m : Int)) = true := by subst hjm; simp
                clear s1 c1' c0 hjm
                go_wp2_with fail
                refine wp_region_past (by kernel_rfl) (by kernel_rfl) ?_
                repeat (go_big_quiet_step (fail))
                refine wpQuiet_nil ?_
                rintro _ ⟨⟨w4, h4⟩, rfl⟩
                have HB4 := Lib.hid (chain HB2.out h4)
                clear h4
                go_wp2_with fail
                go_roundw
                case rel => exact ⟨m + 1, by omega, by go_num, HB4⟩
                case measure => simp [intOf]; omega
              · have t4 : ((j : Int) != (m : Int)) = true := by simp; omega
                have t5 : ((j : Int) == (m : Int)) = false := by simp; omega
                have HF := HA.out j hjk m hmk hjm
                have BG := Lib.hid (fun V => begins_any (cs (C j)) (cs (C m)) V)
                rw [HF] at BG
                obtain ⟨S, hS⟩ : ∃ S : ByteArray, sv (cs (C j)) = .string S := ⟨_, rfl⟩
                obtain ⟨S2, hS2⟩ : ∃ S : ByteArray, sv (cs (C m)) = .string S := ⟨_, rfl⟩
                rw [hS] at c0 BG
                rw [hS2] at c1' BG
                have d0 := fun x => Past.cell c0 x
                have d1 := fun x => Past.cell c1' x
                clear hS hS2 HF s1 hjm
                go_wp2_with fail
                refine wp_region_past (by kernel_rfl) (by kernel_rfl) ?_
                repeat (go_big_quiet_step ((go_at_call 66; exact past_call ((BG.out _).mono fun e w' h => ⟨h.1, h.2 ▸ Below.refl _ _⟩))))
                refine wpQuiet_nil ?_
                rintro _ ⟨⟨w4, h4⟩, rfl⟩
                have HB4 := Lib.hid (chain HB2.out h4)
                clear h4
                go_wp2_with fail
                go_roundw
                case rel => exact ⟨m + 1, by omega, by go_num, HB4⟩
                case measure => simp [intOf]; omega
            · have t3 : ¬ (m : Int) < (k : Int) := by omega
              go_wp2_with fail
              go_roundw
              case rel => exact ⟨j + 1, by omega, by go_num, HB2⟩
              case measure => simp [intOf]; omega
        · have t2 : ¬ (j : Int) < (k : Int) := by omega
          have s1 := Lib.hid (H1.out.below HB.out L1)
          have s2 := Lib.hid (H2.out.below HB.out L2)
          have z0 := HB.out.size
          have W1 := Lib.hid (show Below wr.heap.size wr (wr.alloc (.cells #[] 9)) from (Below.refl wr.heap.size wr).alloc (Nat.le_refl _) _)
          have NW := Lib.hid ((s1.out.below W1.out (by omega)).news)
          have OC := Lib.hid (show ∀ u ∈ strC k C, u.oneCell' = true from fun u hu => by
            obtain ⟨i, _, rfl⟩ := List.mem_map.1 hu
            rfl)
          have LC := Lib.hid (show (strC k C).length = k * 1 by simp [strC])
          have OI := Lib.hid (one_cells .i64 k f)
          have BA := Lib.hid (HB.out.alloc z0 (.cells #[] 9))
          clear hj hjk
          go_wp2_with (first
            | (at_builtin; (refine wpList_append_own _ rfl (.tmp 62) (.tmp 63) 59 rfl w.heap.size 9 j0 (.string ⟨#[]⟩) 1 16 Tryd.underlying59 gi gz0 gz1 gz2 rfl (by decide) _ _ _ rfl (World.ownsRow_made wr #[] 0 z0 (Nat.zero_le _) rfl) ⟨g1, 0, none⟩ k c1 (strC k C) rfl LC.out NW.out OC.out (by unfold maxLen; omega) (by omega) (by simp; omega) ?_); intro v5 w5 own5 gr5 _; simp only [Nat.zero_add, List.nil_append] at own5; obtain ⟨g5, c5, rfl, l5, m5⟩ := own5.form hn; have O5 := Lib.hid own5; have B5 := Lib.hid (BA.out.grown gr5 (by simp; omega) (fun q hq => by cases hq; exact z0)); have z5 := B5.out.size; have N5 := Lib.hid (news_ints ((H2.out.below B5.out L2).below ((Below.refl w5.heap.size w5).alloc (Nat.le_refl _) (.cells #[] 3)) (by omega))); have B6 := Lib.hid (B5.out.alloc z5 (.cells #[] 3)); clear own5 gr5)
            | (at_builtin; (refine wpList_append_own _ rfl (.tmp 65) (.tmp 66) 38 rfl w.heap.size 3 i0 (.int .i64 0) 1 8 Tryd.underlying38 hi hz0 hz1 hz2 rfl (by decide) _ _ _ rfl (World.ownsRow_made w5 #[] 0 z5 (Nat.zero_le _) rfl) ⟨g2, 0, none⟩ k c2 ((List.range k).map fun i => Value.int .i64 (f i)) rfl (by simp) N5.out OI.out (by unfold maxLen; omega) (by omega) (by simp; omega) ?_); intro v6 w6 own6 gr6 _; simp only [Nat.zero_add, List.nil_append] at own6; obtain ⟨g6, c6, rfl, l6, m6⟩ := own6.form hn; have O6 := Lib.hid own6; have GG6 : Hid ((w5.alloc (.cells #[] 3)).grownBy w6 (some w5.heap.size)) := Lib.hid gr6; have B7 := Lib.hid (B6.out.grown gr6 (by simp; omega) (fun q hq => by cases hq; exact z5)); clear own6 gr6))
          go_ret2
          have A6 : Below w6.heap.size w6 (w6.alloc (.cells #[.slice (some ⟨g5, 0, none⟩) k c5, .slice (some ⟨g6, 0, none⟩) k c6] 92)) := (Below.refl _ _).alloc (Nat.le_refl _) _
          have hb := heap_alloc_new w6 (.cells #[.slice (some ⟨g5, 0, none⟩) k c5, .slice (some ⟨g6, 0, none⟩) k c6] 92)
          have O5b := (O5.out.alloc (.cells #[] 3)).kept GG6.out (.inr (fun e => absurd (show g5 = w5.heap.size from Option.some.inj e) (Nat.ne_of_lt m5)))
          have S6 : Strs w6 g5 k C := Strs.of_own O5b
          have I6 : Ints w6 .i64 g6 0 k f := fun i hi => by rw [Nat.zero_add, O6.out.cellAt i (by omega)]; simp [hi]
          have l5' := S6.lt hn
          have l6' := I6.lt hn
          have z7 := A6.size
          exact ⟨w6.heap.size, rfl, ⟨g5, c5, g6, c6, cell_row hb (i := 0) rfl, cell_row hb (i := 1) rfl, S6.below A6 l5', I6.below A6 l6', by omega, by omega⟩, chain B7.out A6⟩
end
end Cf
end Go.Proofs.YteigdcbaojmfgaaDoor
