/- The document's trees of codes: code, begins. | The document's trees of codes: Make. | The document's trees of codes: Get. | The document's read: a code of the table, the escape's beginning, or the end. -/
import Derived.Test.YtpibeocngkjolaaGreatDoorMgCfB
import Derived.Test.YtpibeocngkjolaaGreatDoorMgChD
set_option linter.unusedVariables false
set_option linter.unusedSimpArgs false

namespace Go.Proofs.YtpibeocngkjolaaGreatDoor
open Go.RowKit
set_option linter.unusedSimpArgs false
set_option linter.unusedVariables false
namespace Cf
/-- does x begin with y? -/
def begB (x y : List UInt8) : Bool := decide (y.length ≤ x.length) && (x.take y.length == y)
theorem begB_iff (x y : List UInt8) : begB x y = true ↔ y <+: x := by
  unfold begB
  simp only [Bool.and_eq_true, decide_eq_true_eq, beq_iff_eq]
  constructor
  · rintro ⟨_, h⟩
    rw [← h]
    exact List.take_prefix _ _
  · intro h
    exact ⟨h.length_le, (List.prefix_iff_eq_take.1 h).symm⟩
def good01 (x : List UInt8) : Bool := x.all (fun c => c == 48 || c == 49)
section
set_option maxRecDepth 100000
set_option maxHeartbeats 4000000
set_option linter.unusedVariables false
theorem begins_any (x y : List UInt8) (w : World) : Calls Tryz.prog 113 #[sv x, sv y] w fun e w' => e = .returned (.bool (begB x y)) ∧ w = w' := by
  unfold sv
  have hx := ba_size x
  have hy := ba_size y
  have ex : ∀ m, (⟨x.toArray⟩ : ByteArray).extract 0 m = ⟨(x.take m).toArray⟩ := fun m => by rw [ba_extract, List.drop_zero]
  have hq : begB x y = (decide (y.length ≤ x.length) && ((⟨x.toArray⟩ : ByteArray).extract 0 y.length).toList == (⟨y.toArray⟩ : ByteArray).toList) := by
    unfold begB
    rw [ex, ByteArray.toList_mk, ByteArray.toList_mk]
  rw [hq]
  obtain ⟨N, hN⟩ : ∃ N, x.length = N := ⟨_, rfl⟩
  obtain ⟨M, hM⟩ : ∃ N, y.length = N := ⟨_, rfl⟩
  rw [hN, hM]
  obtain ⟨sx, hsx⟩ : ∃ s : ByteArray, (⟨x.toArray⟩ : ByteArray) = s := ⟨_, rfl⟩
  obtain ⟨sy, hsy⟩ : ∃ s : ByteArray, (⟨y.toArray⟩ : ByteArray) = s := ⟨_, rfl⟩
  rw [hsx, hN] at hx
  rw [hsy, hM] at hy
  rw [hsx, hsy]
  clear ex hq hsx hsy hN hM
  by_cases h : M ≤ N
  · have h1 : (M : Int) ≤ (N : Int) := by omega
    have h0 : (0 : Int) ≤ (M : Int) := by omega
    rw [decide_eq_true h, Bool.true_and]
    go_enter Tryz.func113, Tryz.ntmps113
    go_wp2_with fail
    go_ret
    exact ⟨rfl, rfl⟩
  · have h1 : ¬ (M : Int) ≤ (N : Int) := by omega
    rw [decide_eq_false h, Bool.false_and]
    go_enter Tryz.func113, Tryz.ntmps113
    go_wp2_with fail
    go_ret
    exact ⟨rfl, rfl⟩
theorem rgood_any (l : List Bool) (w : World) (h1 : 1 ≤ l.length) (h24 : l.length ≤ 24) : Calls Tryz.prog 112 #[sv (cs l)] w fun e w' => e = .returned (.bool true) ∧ w = w' := by
  unfold sv
  have hx := ba_size (cs l)
  rw [cs_len] at hx
  have hel : ∀ (j : Nat) (h : j < (⟨(cs l).toArray⟩ : ByteArray).size), (⟨(cs l).toArray⟩ : ByteArray)[j]'h = 48 ∨ (⟨(cs l).toArray⟩ : ByteArray)[j]'h = 49 := by
    intro j h
    have h2 : j < (cs l).length := h
    show (cs l)[j]'h2 = 48 ∨ (cs l)[j]'h2 = 49
    simp only [cs, List.getElem_map]
    generalize l[j]'_ = b
    cases b
    · exact .inl rfl
    · exact .inr rfl
  have HEL := Lib.hid hel
  obtain ⟨N, hN⟩ : ∃ N, l.length = N := ⟨_, rfl⟩
  rw [hN] at h1 h24 hx
  obtain ⟨sx, hsx⟩ : ∃ s : ByteArray, (⟨(cs l).toArray⟩ : ByteArray) = s := ⟨_, rfl⟩
  rw [hsx] at hx HEL ⊢
  clear hsx hN hel
  go_enter Tryz.func112, Tryz.ntmps112
  go_wp2_with fail
  go_loop [3] (fun i => ∃ k : Nat, k ≤ N ∧ i = .int .i64 k) (fun i => N - (intOf i).toNat)
  case atStart => exact ⟨0, by omega, rfl⟩
  case round =>
    obtain ⟨k, hk, rfl⟩ := hrel
    by_cases hkN : k < N
    · have t1 : (k : Int) < (N : Int) := by omega
      have he := HEL.out k (by omega)
      by_cases e48 : sx[k]'(by omega) = 48
      · have hch : ∀ h : k < sx.size, sx[k]'h = 48 := fun _ => e48
        clear he e48
        go_wp2_with fail
        go_round
        case rel => exact ⟨k + 1, by omega, by go_num⟩
        case measure => simp [intOf]; omega
      · have hch : ∀ h : k < sx.size, sx[k]'h = 49 := fun _ => he.resolve_left e48
        clear he e48
        go_wp2_with fail
        go_round
        case rel => exact ⟨k + 1, by omega, by go_num⟩
        case measure => simp [intOf]; omega
    · obtain rfl : k = N := by omega
      have t1 : ¬ (k : Int) < (k : Int) := by omega
      have t2 : (1 : Int) ≤ (k : Int) := by omega
      have t3 : (k : Int) ≤ 24 := by omega
      go_wp2_with fail
      go_ret
      exact ⟨rfl, rfl⟩
end
end Cf
end Go.Proofs.YtpibeocngkjolaaGreatDoor

namespace Go.Proofs.YtpibeocngkjolaaGreatDoor
open Go.RowKit
set_option linter.unusedSimpArgs false
set_option linter.unusedVariables false
namespace Cf
theorem info_i64 : (Tryz.prog.info? 3).map (fun i => (i.zero, i.size, i.bytes)) = some (some (.int .i64 0), 1, 8) := by kernel_rfl
/-- n codes in a block from its first cell on. -/
def Strs (w : World) (g n : Nat) (C : Nat → List Bool) : Prop := ∀ i, i < n → w.cell? ⟨g, i, none⟩ = some (sv (cs (C i)))
theorem Strs.below {w w' : World} {g n B : Nat} {C : Nat → List Bool} (h : Strs w g n C) (hb : Below B w w') (hg : g < B) : Strs w' g n C := fun i hi => (hb.cell (p := ⟨g, i, none⟩) hg).trans (h i hi)
theorem Strs.lt {w : World} {g n : Nat} {C : Nat → List Bool} (h : Strs w g n C) (hn : 0 < n) : g < w.heap.size := World.block_lt_of_cell? w _ (h 0 hn)
def strC (n : Nat) (C : Nat → List Bool) : List Value := (List.range n).map fun i => sv (cs (C i))
theorem strC_get {n : Nat} {C : Nat → List Bool} {i : Nat} (h : i < n) : (strC n C)[i]? = some (sv (cs (C i))) := by simp [strC, h]
theorem Strs.news {w : World} {g n : Nat} {C : Nat → List Bool} (h : Strs w g n C) : ∀ j u, (strC n C)[j]? = some u → w.cell? ((⟨g, 0, none⟩ : Addr).add j) = some u := by
  intro j u hu
  have hj : j < n := by
    have := (List.getElem?_eq_some_iff.1 hu).1
    simpa [strC] using this
  rw [show (⟨g, 0, none⟩ : Addr).add j = ⟨g, j, none⟩ by unfold Addr.add; split <;> simp_all, h j hj]
  rw [strC_get hj] at hu
  exact hu
theorem Strs.of_own {w : World} {B g c n : Nat} {C : Nat → List Bool} (h : w.ownsRow B 9 1 (.slice (some ⟨g, 0, none⟩) n c) n (strC n C)) : Strs w g n C := fun i hi => by rw [h.cellAt i (by omega)]; exact strC_get hi
/-- a tree of codes lies in block t. -/
structure Tr (B : Nat) (w : World) (t n : Nat) (C : Nat → List Bool) (f : Nat → Int) : Prop where
  ex : ∃ g1 c1 g2 c2, w.cell? ⟨t, 0, none⟩ = some (.slice (some ⟨g1, 0, none⟩) n c1) ∧ w.cell? ⟨t, 1, none⟩ = some (.slice (some ⟨g2, 0, none⟩) n c2) ∧ Strs w g1 n C ∧ Ints w .i64 g2 0 n f ∧ g1 < w.heap.size ∧ g2 < w.heap.size
theorem Tr.below {B : Nat} {w w' : World} {t n : Nat} {C : Nat → List Bool} {f : Nat → Int} (h : Tr B w t n C f) (hb : Below w.heap.size w w') : Tr B w' t n C f := by
  obtain ⟨g1, c1, g2, c2, h1, h2, h3, h4, h5, h6⟩ := h.ex
  exact ⟨g1, c1, g2, c2, (hb.cell (World.block_lt_of_cell? _ _ h1)).trans h1, (hb.cell (World.block_lt_of_cell? _ _ h2)).trans h2, h3.below hb h5, h4.below hb h6, Nat.lt_of_lt_of_le h5 hb.size, Nat.lt_of_lt_of_le h6 hb.size⟩
/-- what Make comes to. -/
def MadeT (w : World) (n : Nat) (C : Nat → List Bool) (f : Nat → Int) (e : Ending) (w' : World) : Prop :=
  ∃ t, e = .returned (.tuple #[.pointer (some ⟨t, 0, none⟩), .int .i64 0]) ∧ Tr w.heap.size w' t n C f ∧ Below w.heap.size w w'
section
set_option maxRecDepth 100000
set_option maxHeartbeats 4000000
set_option linter.unusedVariables false
theorem Make_any (n g1 c1 g2 c2 : Nat) (C : Nat → List Bool) (f : Nat → Int) (w : World) (hn : 0 < n) (hn2 : n ≤ 300) (h1 : Strs w g1 n C) (h2 : Ints w .i64 g2 0 n f) (hg : ∀ i, i < n → 1 ≤ (C i).length ∧ (C i).length ≤ 24) (ha : ∀ i, i < n → ∀ j, j < n → i ≠ j → begB (cs (C i)) (cs (C j)) = false) :
    Calls Tryz.prog 90 #[.slice (some ⟨g1, 0, none⟩) n c1, .slice (some ⟨g2, 0, none⟩) n c2] w (MadeT w n C f) := by
  obtain ⟨i0, hi, hz0, hz1, hz2⟩ := info_parts info_i64
  obtain ⟨j0, gi, gz0, gz1, gz2⟩ := info_parts info_str
  have H1 := Lib.hid h1
  have H2 := Lib.hid h2
  have HG := Lib.hid hg
  have HA := Lib.hid ha
  have L1 := h1.lt hn
  have L2 := h2.lt hn
  have hne : ((n : Int) == 0) = false := by rw [beq_eq_false_iff_ne]; omega
  have hn3 : ¬ (n : Int) > 300 := by omega
  clear h1 h2 hg ha
  go_enter Tryz.func90, Tryz.ntmps90
  go_wp2_with fail
  go_loop [6] (fun i => ∃ k : Nat, k ≤ n ∧ i = .int .i64 k) (fun i => n - (intOf i).toNat)
  case atStart => exact ⟨0, by omega, rfl⟩
  case round =>
    obtain ⟨k, hk, rfl⟩ := hrel
    by_cases hkn : k < n
    · have t1 : (k : Int) < (n : Int) := by omega
      have c0 := H1.out k hkn
      have CG := Lib.hid (rgood_any (C k) w (HG.out k hkn).1 (HG.out k hkn).2)
      obtain ⟨S, hS⟩ : ∃ S : ByteArray, sv (cs (C k)) = .string S := ⟨_, rfl⟩
      rw [hS] at c0 CG
      clear hS
      go_wp2_with (go_at_call 112; refine CG.out.mono ?_; rintro e w1 ⟨rfl, rfl⟩)
      go_round
      case rel => exact ⟨k + 1, by omega, by go_num⟩
      case measure => simp [intOf]; omega
    · obtain rfl : k = n := by omega
      have t1 : ¬ (k : Int) < (k : Int) := by omega
      clear hkn hk
      go_wp2_with fail
      go_loopw [7] (fun i wr => ∃ j : Nat, j ≤ k ∧ i = .int .i64 j ∧ Hid (Below w.heap.size w wr)) (fun i _ => k - (intOf i).toNat)
      case atStart => exact ⟨0, by omega, rfl, Lib.hid (Below.refl _ _)⟩
      case round =>
        obtain ⟨j, hj, rfl, HB⟩ := hrel
        by_cases hjk : j < k
        · have t2 : (j : Int) < (k : Int) := by omega
          go_wp2_with fail
          obtain ⟨wo, rfl⟩ : ∃ wo : World, wo = wr := ⟨_, rfl⟩
          go_loopw [8] (fun i wr => ∃ m : Nat, m ≤ k ∧ i = .int .i64 m ∧ Hid (Below w.heap.size w wr)) (fun i _ => k - (intOf i).toNat)
          case atStart => exact ⟨0, by omega, rfl, HB⟩
          case round =>
            obtain ⟨m, hm, rfl, HB2⟩ := hrel
            by_cases hmk : m < k
            · have t3 : (m : Int) < (k : Int) := by omega
              have s1 := H1.out.below HB2.out L1
              have c0 := s1 j hjk
              have c1' := s1 m hmk
              by_cases hjm : j = m
              · have t4 : ((j : Int) != (m : Int)) = false := by subst hjm; simp
                have t5 : ((j : Int) == (m : Int)) = true := by subst hjm; simp
                clear s1 c1' c0 hjm
                go_wp2_with fail
                refine wp_region_past (by kernel_rfl) (by kernel_rfl) ?_
                repeat (go_big_quiet_step (fail))
                refine wpQuiet_nil ?_
                rintro _ ⟨⟨w4, h4⟩, rfl⟩
                have HB4 := Lib.hid (chain HB2.out h4)
                clear h4
                go_wp2_with fail
                go_roundw
                case rel => exact ⟨m + 1, by omega, by go_num, HB4⟩
                case measure => simp [intOf]; omega
              · have t4 : ((j : Int) != (m : Int)) = true := by simp; omega
                have t5 : ((j : Int) == (m : Int)) = false := by simp; omega
                have HF := HA.out j hjk m hmk hjm
                have BG := Lib.hid (fun V => begins_any (cs (C j)) (cs (C m)) V)
                rw [HF] at BG
                obtain ⟨S, hS⟩ : ∃ S : ByteArray, sv (cs (C j)) = .string S := ⟨_, rfl⟩
                obtain ⟨S2, hS2⟩ : ∃ S : ByteArray, sv (cs (C m)) = .string S := ⟨_, rfl⟩
                rw [hS] at c0 BG
                rw [hS2] at c1' BG
                have d0 := fun x => Past.cell c0 x
                have d1 := fun x => Past.cell c1' x
                clear hS hS2 HF s1 hjm
                go_wp2_with fail
                refine wp_region_past (by kernel_rfl) (by kernel_rfl) ?_
                repeat (go_big_quiet_step ((go_at_call 113; exact past_call ((BG.out _).mono fun e w' h => ⟨h.1, h.2 ▸ Below.refl _ _⟩))))
                refine wpQuiet_nil ?_
                rintro _ ⟨⟨w4, h4⟩, rfl⟩
                have HB4 := Lib.hid (chain HB2.out h4)
                clear h4
                go_wp2_with fail
                go_roundw
                case rel => exact ⟨m + 1, by omega, by go_num, HB4⟩
                case measure => simp [intOf]; omega
            · have t3 : ¬ (m : Int) < (k : Int) := by omega
              go_wp2_with fail
              go_roundw
              case rel => exact ⟨j + 1, by omega, by go_num, HB2⟩
              case measure => simp [intOf]; omega
        · have t2 : ¬ (j : Int) < (k : Int) := by omega
          have s1 := Lib.hid (H1.out.below HB.out L1)
          have s2 := Lib.hid (H2.out.below HB.out L2)
          have z0 := HB.out.size
          have W1 := Lib.hid (show Below wr.heap.size wr (wr.alloc (.cells #[] 9)) from (Below.refl wr.heap.size wr).alloc (Nat.le_refl _) _)
          have NW := Lib.hid ((s1.out.below W1.out (by omega)).news)
          have OC := Lib.hid (show ∀ u ∈ strC k C, u.oneCell' = true from fun u hu => by
            obtain ⟨i, _, rfl⟩ := List.mem_map.1 hu
            rfl)
          have LC := Lib.hid (show (strC k C).length = k * 1 by simp [strC])
          have OI := Lib.hid (one_cells .i64 k f)
          have BA := Lib.hid (HB.out.alloc z0 (.cells #[] 9))
          clear hj hjk
          go_wp2_with (first
            | (at_builtin; (refine wpList_append_own _ rfl (.tmp 62) (.tmp 63) 98 rfl w.heap.size 9 j0 (.string ⟨#[]⟩) 1 16 Tryz.underlying98 gi gz0 gz1 gz2 rfl (by decide) _ _ _ rfl (World.ownsRow_made wr #[] 0 z0 (Nat.zero_le _) rfl) ⟨g1, 0, none⟩ k c1 (strC k C) rfl LC.out NW.out OC.out (by unfold maxLen; omega) (by omega) (by simp; omega) ?_); intro v5 w5 own5 gr5 _; simp only [Nat.zero_add, List.nil_append] at own5; obtain ⟨g5, c5, rfl, l5, m5⟩ := own5.form hn; have O5 := Lib.hid own5; have B5 := Lib.hid (BA.out.grown gr5 (by simp; omega) (fun q hq => by cases hq; exact z0)); have z5 := B5.out.size; have N5 := Lib.hid (news_ints ((H2.out.below B5.out L2).below ((Below.refl w5.heap.size w5).alloc (Nat.le_refl _) (.cells #[] 3)) (by omega))); have B6 := Lib.hid (B5.out.alloc z5 (.cells #[] 3)); clear own5 gr5)
            | (at_builtin; (refine wpList_append_own _ rfl (.tmp 65) (.tmp 66) 38 rfl w.heap.size 3 i0 (.int .i64 0) 1 8 Tryz.underlying38 hi hz0 hz1 hz2 rfl (by decide) _ _ _ rfl (World.ownsRow_made w5 #[] 0 z5 (Nat.zero_le _) rfl) ⟨g2, 0, none⟩ k c2 ((List.range k).map fun i => Value.int .i64 (f i)) rfl (by simp) N5.out OI.out (by unfold maxLen; omega) (by omega) (by simp; omega) ?_); intro v6 w6 own6 gr6 _; simp only [Nat.zero_add, List.nil_append] at own6; obtain ⟨g6, c6, rfl, l6, m6⟩ := own6.form hn; have O6 := Lib.hid own6; have GG6 : Hid ((w5.alloc (.cells #[] 3)).grownBy w6 (some w5.heap.size)) := Lib.hid gr6; have B7 := Lib.hid (B6.out.grown gr6 (by simp; omega) (fun q hq => by cases hq; exact z5)); clear own6 gr6))
          go_ret2
          have A6 : Below w6.heap.size w6 (w6.alloc (.cells #[.slice (some ⟨g5, 0, none⟩) k c5, .slice (some ⟨g6, 0, none⟩) k c6] 148)) := (Below.refl _ _).alloc (Nat.le_refl _) _
          have hb := heap_alloc_new w6 (.cells #[.slice (some ⟨g5, 0, none⟩) k c5, .slice (some ⟨g6, 0, none⟩) k c6] 148)
          have O5b := (O5.out.alloc (.cells #[] 3)).kept GG6.out (.inr (fun e => absurd (show g5 = w5.heap.size from Option.some.inj e) (Nat.ne_of_lt m5)))
          have S6 : Strs w6 g5 k C := Strs.of_own O5b
          have I6 : Ints w6 .i64 g6 0 k f := fun i hi => by rw [Nat.zero_add, O6.out.cellAt i (by omega)]; simp [hi]
          have l5' := S6.lt hn
          have l6' := I6.lt hn
          have z7 := A6.size
          exact ⟨w6.heap.size, rfl, ⟨g5, c5, g6, c6, cell_row hb (i := 0) rfl, cell_row hb (i := 1) rfl, S6.below A6 l5', I6.below A6 l6', by omega, by omega⟩, chain B7.out A6⟩
end
end Cf
end Go.Proofs.YtpibeocngkjolaaGreatDoor

namespace Go.Proofs.YtpibeocngkjolaaGreatDoor
open Go.RowKit
set_option linter.unusedSimpArgs false
set_option linter.unusedVariables false
namespace Cf
/-- what a tree tells of bits. -/
def tGet (n : Nat) (C : Nat → List Bool) (f : Nat → Int) (x : List UInt8) : Int × Int × Int :=
  match (List.range n).find? (fun i => begB x (cs (C i))) with
  | some i => (f i, ((C i).length : Int), 0)
  | none => (0, 0, if (List.range n).any (fun i => begB (cs (C i)) x) then 5 else 7)
theorem range_find {n k : Nat} {m : Nat → Bool} (hk : k < n) (hn : ∀ j, j < k → m j = false) (hm : m k = true) : (List.range n).find? m = some k := by
  rw [List.find?_eq_some_iff_getElem]
  refine ⟨hm, k, by simpa using hk, by simp, fun j hj => by simp [hn j hj]⟩
theorem range_none {n : Nat} {m : Nat → Bool} (hn : ∀ j, j < n → m j = false) : (List.range n).find? m = none := by
  rw [List.find?_eq_none]
  intro x hx
  rw [hn x (List.mem_range.1 hx)]
  simp
theorem range_any {n k : Nat} {m : Nat → Bool} (hk : k < n) (hm : m k = true) : (List.range n).any m = true := List.any_eq_true.2 ⟨k, List.mem_range.2 hk, hm⟩
theorem range_not {n : Nat} {m : Nat → Bool} (hn : ∀ j, j < n → m j = false) : (List.range n).any m = false := by
  rw [List.any_eq_false]
  intro x hx
  rw [hn x (List.mem_range.1 hx)]
  simp
def seen24 (F : Nat → Int) (N : Nat) (p : Int) : List Bool := if 8 * (N : Int) < p then [] else seenL F p.toNat (min 24 (8 * N - p.toNat))
def TGot (w : World) (r : Int × Int × Int) (e : Ending) (w' : World) : Prop := e = .returned (.tuple #[.int .i64 r.1, .int .i64 r.2.1, .int .i64 r.2.2]) ∧ Below w.heap.size w w'
section
set_option maxRecDepth 100000
set_option maxHeartbeats 4000000
set_option linter.unusedVariables false
theorem TGet_low (t : Nat) (v : Value) (p : Int) (w : World) (hp : p < 0) : Calls Tryz.prog 91 #[.pointer (some ⟨t, 0, none⟩), v, .int .i64 p] w (TGot w (0, 0, 3)) := by
  go_enter Tryz.func91, Tryz.ntmps91
  go_wp2_with fail
  go_ret3
  exact ⟨rfl, Below.refl _ _⟩
theorem TGet_at (B t n : Nat) (C : Nat → List Bool) (f : Nat → Int) (v : Value) (N : Nat) (F : Nat → Int) (q : Nat) (w : World) (hn : n ≤ 300) (hN : N ≤ 1000000) (hT : Tr B w t n C f) (hs : Sl .u8 w v N F) (hb : ∀ j, j < N → 0 ≤ F j ∧ F j ≤ 255) (hq : q ≤ 9223372036854775807) (hC : ∀ i, i < n → (C i).length ≤ 24) :
    Calls Tryz.prog 91 #[.pointer (some ⟨t, 0, none⟩), v, .int .i64 (q : Int)] w (TGot w (tGet n C f (cs (seenL F q (min 24 (8 * N - q)))))) := by
  have HR := Lib.hid (fun (k : Nat) (W : World) (hW : Below w.heap.size w W) (h : q + k + 1 ≤ 8 * N) => rRead_ok v N F (q + k) 1 W hN (hs.below hW) hb (by decide) h)
  have HTR := Lib.hid hT
  have HCL := Lib.hid hC
  have q0 : (0 : Int) ≤ (q : Int) := by omega
  obtain ⟨a, c, rfl, _, _, _⟩ := hs
  have HC := Lib.hid (fun V => rCount_any a N c V hN)
  obtain ⟨M, hM⟩ : ∃ M, min 24 (8 * N - q) = M := ⟨_, rfl⟩
  have hM2 : M ≤ 24 ∧ (M ≠ 0 → q + M ≤ 8 * N) ∧ (M < 24 → 8 * N ≤ q + M) := by omega
  rw [hM]
  clear hb hT hC hM
  go_enter Tryz.func91, Tryz.ntmps91
  go_wp2_with fail
  go_loopw [9] (fun s wr => ∃ k : Nat, k ≤ M ∧ Hid (s = sv (cs (seenL F q k))) ∧ Hid (Below w.heap.size w wr)) (fun s _ => M - (match s with | .string S => S.size | _ => 0))
  case atStart => exact ⟨0, by omega, Lib.hid rfl, Lib.hid (Below.refl _ _)⟩
  case round =>
    obtain ⟨k, hk, HS, HB⟩ := hrel
    have hse := HS.out
    have hse2 : ∃ S : ByteArray, sv (cs (seenL F q k)) = .string S ∧ S.size = k ∧ S = ⟨(cs (seenL F q k)).toArray⟩ := ⟨_, rfl, by rw [ba_size, cs_len]; simp [seenL], rfl⟩
    obtain ⟨S, hS, hz, hSS⟩ := hse2
    rw [hS] at hse
    have HSS := Lib.hid hSS
    have HS3 := Lib.hid hS
    clear hS hSS HS
    subst hse
    by_cases hkM : k < M
    · have q1 : (q : Int) ≤ 8000000 := by omega
      have t1 : (q : Int) + (k : Int) < 8 * (N : Int) := by omega
      have t2 : (k : Int) < 24 := by omega
      have CALL := HR.out k wr HB.out (by omega)
      rw [Int.natCast_add] at CALL
      have erd : rdV F (q + k) 1 = bitI F (q + k) := by simp [rdV]
      rw [erd] at CALL
      have h01 := bitI_01 F (q + k)
      obtain ⟨y, hy⟩ : ∃ y : Nat, bitI F (q + k) = (y : Int) := ⟨(bitI F (q + k)).toNat, by omega⟩
      have HYB := Lib.hid (show (bitI F (q + k) == 1) = (y == 1) by rw [hy]; rcases h01 with h | h <;> rw [hy] at h <;> (have : y = 0 ∨ y = 1 := by omega) <;> rcases this with rfl | rfl <;> rfl)
      rw [hy] at CALL h01
      have h01n : y = 0 ∨ y = 1 := by omega
      have HCALL := Lib.hid CALL
      have one := fun V => one_new V (48 + (y : Int)) _ (bch_nat y h01n)
      obtain ⟨T, hT⟩ : ∃ T : ByteArray, (⟨#[bch (y == 1)]⟩ : ByteArray) = T := ⟨_, rfl⟩
      have hTz : T.size = 1 := by rw [← hT]; rfl
      have HTT := Lib.hid hT
      rw [hT] at one
      have tz : (S ++ T).size = k + 1 := by rw [ByteArray.size_append]; omega
      have HB1 := Lib.hid (HB.out.alloc HB.out.size (.cells #[.int .u8 (48 + (y : Int))] 5))
      have HNX : Hid (Value.string (S ++ T) = sv (cs (seenL F q (k + 1)))) := Lib.hid (by
        rw [HSS.out, ← HTT.out, seenL_snoc, HYB.out]
        unfold sv
        congr 1
        apply ByteArray.ext
        simp [cs])
      have y0 : 0 ≤ 48 + (y : Int) := by omega
      have y1 : 48 + (y : Int) < 256 := by omega
      clear CALL erd hy h01 hT h01n hk
      go_wp2_with (first
        | (go_at_call 64; refine (HC.out _).mono ?_; rintro e w1 ⟨rfl, rfl⟩)
        | (go_at_call 39; refine HCALL.out.mono ?_; rintro e w1 ⟨rfl, rfl⟩))
      go_roundw
      case rel => exact ⟨k + 1, by omega, HNX, HB1⟩
      case measure => simp; omega
    · obtain rfl : k = M := by omega
      obtain ⟨x, hx⟩ : ∃ x, cs (seenL F q k) = x := ⟨_, rfl⟩
      rw [hx] at HS3
      have HXX := Lib.hid hx
      have HTW := Lib.hid (HTR.out.below (HB.out.mono (Nat.le_refl _)))
      obtain ⟨ga, ca, gb, cb, k0, k1, K2, K3, l1, l2⟩ := HTW.out.ex
      have HK2 := Lib.hid K2
      have HK3 := Lib.hid K3
      have hlast : (k = 24 ∧ (q : Int) + (k : Int) < 8 * (N : Int)) ∨ ¬ (q : Int) + (k : Int) < 8 * (N : Int) := by omega
      have q2 : (q : Int) ≤ 9223372036854775807 := by omega
      have HBF := Lib.hid HB.out
      have kb : (k : Int) ≤ 24 := by omega
      have hw : wrap64 ((q : Int) + (k : Int)) = (q : Int) + (k : Int) := w64 (by omega)
      clear K2 K3 hkM hk hx l1 l2 HSS hM2 HB HR
      have k24 : ∀ h : k = 24, ¬ (k : Int) < 24 := fun h => by omega
      rcases hlast with ⟨hk24, t1⟩ | t1
      all_goals
        first | (have t2 := k24 hk24; clear hk24 k24) | (have t2 := decide_eq_false t1; clear k24)
        go_wp2_with (go_at_call 64; refine (HC.out _).mono ?_; rintro e w1 ⟨rfl, rfl⟩)
        go_loop [12] (fun i => ∃ j : Nat, j ≤ n ∧ i = .int .i64 j ∧ Hid (∀ m, m < j → begB x (cs (C m)) = false)) (fun i => n - (intOf i).toNat)
        case atStart => exact ⟨0, by omega, rfl, Lib.hid (fun m h => by omega)⟩
        case round =>
          obtain ⟨j, hj, rfl, HNO⟩ := hrel
          by_cases hjn : j < n
          · have t3 : (j : Int) < (n : Int) := by omega
            have t4 : (0 : Int) ≤ (j : Int) := by omega
            have c0 := HK2.out j hjn
            have BG := Lib.hid (fun V => begins_any x (cs (C j)) V)
            obtain ⟨S2, hS2⟩ : ∃ S : ByteArray, sv (cs (C j)) = .string S := ⟨_, rfl⟩
            rw [hS2] at c0
            rw [HS3.out, hS2] at BG
            have HS2z : Hid (S2.size = (C j).length) := Lib.hid (by
              unfold sv at hS2
              injection hS2 with h
              rw [← h, ba_size, cs_len])
            clear hS2
            by_cases hbg : begB x (cs (C j)) = true
            · rw [hbg] at BG
              have hz2 : S2.size ≤ 24 := by rw [HS2z.out]; exact HCL.out j hjn
              have c1 := HK3.out j hjn
              rw [Nat.zero_add] at c1
              have HRES : Hid (tGet n C f x = (f j, ((C j).length : Int), 0)) := Lib.hid (by unfold tGet; rw [range_find hjn HNO.out hbg])
              have HSZ : Hid (((S2.size : Nat) : Int) = ((C j).length : Int)) := Lib.hid (by rw [HS2z.out])
              obtain ⟨fj, hfj⟩ : ∃ y, f j = y := ⟨_, rfl⟩
              rw [hfj] at c1 HRES
              clear hbg hfj
              go_wp2_with (go_at_call 113; refine (BG.out _).mono ?_; rintro e w1 ⟨rfl, rfl⟩)
              go_quiet (fail)
              go_wp2_with fail
              go_ret3
              exact ⟨by rw [HXX.out, HRES.out, ← HSZ.out]; rfl, below_drewN HBF.out _⟩
            · rw [Bool.eq_false_iff.2 hbg] at BG
              have HN2 : Hid (∀ m, m < j + 1 → begB x (cs (C m)) = false) := Lib.hid (fun m hm => by
                by_cases h : m < j
                · exact HNO.out m h
                · obtain rfl : m = j := by omega
                  exact Bool.eq_false_iff.2 hbg)
              clear hbg
              go_wp2_with (go_at_call 113; refine (BG.out _).mono ?_; rintro e w1 ⟨rfl, rfl⟩)
              go_round
              case rel => exact ⟨j + 1, by omega, by go_num, HN2⟩
              case measure => simp [intOf]; omega
          · obtain rfl : j = n := by omega
            have t3 : ¬ (j : Int) < (j : Int) := by omega
            go_wp2_with fail
            go_loop [13] (fun i => ∃ j2 : Nat, j2 ≤ j ∧ i = .int .i64 j2 ∧ Hid (∀ m, m < j2 → begB (cs (C m)) x = false)) (fun i => j - (intOf i).toNat)
            case atStart => exact ⟨0, by omega, rfl, Lib.hid (fun m h => by omega)⟩
            case round =>
              obtain ⟨j2, hj2, rfl, HNO2⟩ := hrel
              by_cases hjn2 : j2 < j
              · have t5 : (j2 : Int) < (j : Int) := by omega
                have t4 : (0 : Int) ≤ (j2 : Int) := by omega
                have c0 := HK2.out j2 hjn2
                have BG := Lib.hid (fun V => begins_any (cs (C j2)) x V)
                obtain ⟨S2, hS2⟩ : ∃ S : ByteArray, sv (cs (C j2)) = .string S := ⟨_, rfl⟩
                rw [hS2] at c0
                rw [HS3.out, hS2] at BG
                clear hS2
                by_cases hbg : begB (cs (C j2)) x = true
                · rw [hbg] at BG
                  have HRES : Hid (tGet j C f x = (0, 0, 5)) := Lib.hid (by unfold tGet; rw [range_none HNO.out, range_any hjn2 hbg]; rfl)
                  clear hbg
                  go_wp2_with (go_at_call 113; refine (BG.out _).mono ?_; rintro e w1 ⟨rfl, rfl⟩)
                  go_ret3
                  exact ⟨by rw [HXX.out, HRES.out]; rfl, HBF.out⟩
                · rw [Bool.eq_false_iff.2 hbg] at BG
                  have HN2 : Hid (∀ m, m < j2 + 1 → begB (cs (C m)) x = false) := Lib.hid (fun m hm => by
                    by_cases h : m < j2
                    · exact HNO2.out m h
                    · obtain rfl : m = j2 := by omega
                      exact Bool.eq_false_iff.2 hbg)
                  clear hbg
                  go_wp2_with (go_at_call 113; refine (BG.out _).mono ?_; rintro e w1 ⟨rfl, rfl⟩)
                  go_round
                  case rel => exact ⟨j2 + 1, by omega, by go_num, HN2⟩
                  case measure => simp [intOf]; omega
              · obtain rfl : j2 = j := by omega
                have t5 : ¬ (j2 : Int) < (j2 : Int) := by omega
                have HRES : Hid (tGet j2 C f x = (0, 0, 7)) := Lib.hid (by unfold tGet; rw [range_none HNO.out, range_not HNO2.out]; rfl)
                go_wp2_with fail
                go_ret3
                exact ⟨by rw [HXX.out, HRES.out]; rfl, HBF.out⟩
end
end Cf
end Go.Proofs.YtpibeocngkjolaaGreatDoor

namespace Go.Proofs.YtpibeocngkjolaaGreatDoor
open Go.RowKit
set_option linter.unusedSimpArgs false
set_option linter.unusedVariables false
namespace Cf
def escC : List Bool := [false, false, false, false, false, true]
def cR (first : Bool) : List (List Bool) := (tab first).map (·.code) ++ (if first then [escC] else [[true, false], escC])
def nR (first : Bool) : List Int := (List.range 63).map (fun i : Nat => (i : Int)) ++ (if first then [1000] else [1001, 1000])
def nOf (first : Bool) : Nat := if first then 64 else 65
theorem cR_len : ∀ first, (cR first).length = nOf first := by decide +kernel
theorem nR_len : ∀ first, (nR first).length = nOf first := by decide +kernel
theorem cR_good : ∀ first, ∀ i, i < nOf first → 1 ≤ ((cR first).getD i []).length ∧ ((cR first).getD i []).length ≤ 24 := by decide +kernel
theorem cR_apart : ∀ first, ∀ i, i < nOf first → ∀ j, j < nOf first → i ≠ j → begB (cs ((cR first).getD i [])) (cs ((cR first).getD j [])) = false := by decide +kernel
def strL (l : List (List Bool)) : List Value := l.map fun c => sv (cs c)
theorem codeC_strL (l : List Ent) : codeC l = strL (l.map (·.code)) := by simp [codeC, strL]
theorem tab_set : (tab true).map (·.code) = ((tab false).map (·.code)).set 0 [true] := by decide +kernel
theorem strL_set (l : List (List Bool)) (i : Nat) (c : List Bool) : (strL l).set i (sv (cs c)) = strL (l.set i c) := by simp [strL, List.map_set]
theorem strL_C (l : List (List Bool)) (n : Nat) (h : l.length = n) : strL l = strC n (fun i => l.getD i []) := by
  subst h
  unfold strL strC
  apply List.ext_getElem
  · simp
  · intro i h1 h2
    simp at h1 ⊢
    rw [List.getElem?_eq_getElem (by simpa using h1)]
    rfl
theorem ints_C (l : List Int) (n : Nat) (h : l.length = n) : l.map (Value.int .i64) = (List.range n).map fun i => Value.int .i64 (l.getD i 0) := by
  subst h
  apply List.ext_getElem
  · simp
  · intro i h1 h2
    simp at h1 ⊢
    rw [List.getElem?_eq_getElem (by simpa using h1)]
    rfl
/-- what read comes to. -/
def rdT (first : Bool) (F : Nat → Int) (N : Nat) (p : Int) : Int × Int × Int :=
  if p < 0 then (0, 0, 3) else tGet (nOf first) (fun i => (cR first).getD i []) (fun i => (nR first).getD i 0) (cs (seenL F p.toNat (min 24 (8 * N - p.toNat))))
theorem ints_own {w : World} {B g c n : Nat} {f : Nat → Int} (h : w.ownsRow B 3 1 (.slice (some ⟨g, 0, none⟩) n c) n ((List.range n).map fun i => Value.int .i64 (f i))) : Ints w .i64 g 0 n f := fun i hi => by rw [Nat.zero_add, h.cellAt i (by omega)]; simp [hi]
theorem Tr.base {B B' : Nat} {w : World} {t n : Nat} {C : Nat → List Bool} {f : Nat → Int} (h : Tr B w t n C f) : Tr B' w t n C f := ⟨h.ex⟩
section
set_option maxRecDepth 100000
set_option maxHeartbeats 4000000
set_option linter.unusedVariables false
theorem TGet_any (B t n : Nat) (C : Nat → List Bool) (f : Nat → Int) (v : Value) (N : Nat) (F : Nat → Int) (p : Int) (w : World) (hn : n ≤ 300) (hN : N ≤ 1000000) (hT : Tr B w t n C f) (hs : Sl .u8 w v N F) (hb : ∀ j, j < N → 0 ≤ F j ∧ F j ≤ 255) (hp : p ≤ 9223372036854775807) (hC : ∀ i, i < n → (C i).length ≤ 24) :
    Calls Tryz.prog 91 #[.pointer (some ⟨t, 0, none⟩), v, .int .i64 p] w (TGot w (if p < 0 then (0, 0, 3) else tGet n C f (cs (seenL F p.toNat (min 24 (8 * N - p.toNat)))))) := by
  by_cases h0 : p < 0
  · rw [if_pos h0]
    exact TGet_low t v p w h0
  · rw [if_neg h0]
    obtain ⟨q, rfl⟩ : ∃ q : Nat, p = (q : Int) := ⟨p.toNat, by omega⟩
    exact TGet_at B t n C f v N F q w hn hN hT hs hb (by omega) hC
theorem read_any (v : Value) (N : Nat) (F : Nat → Int) (p : Int) (first : Bool) (w : World) (hN : N ≤ 1000000) (hs : Sl .u8 w v N F) (hb : ∀ j, j < N → 0 ≤ F j ∧ F j ≤ 255) (hp : p ≤ 9223372036854775807) :
    Calls Tryz.prog 66 #[v, .int .i64 p, .bool first] w (TGot w (rdT first F N p)) := by
  obtain ⟨i0, hi, hz0, hz1, hz2⟩ := info_parts info_i64
  obtain ⟨j0, gi, gz0, gz1, gz2⟩ := info_parts info_str
  have HC := Lib.hid (fun W => Coded_any W)
  have HS := Lib.hid hs
  have HG : Hid (∀ (t : Nat) W, Tr w.heap.size W t (nOf first) (fun i => (cR first).getD i []) (fun i => (nR first).getD i 0) → Below w.heap.size w W → Calls Tryz.prog 91 #[.pointer (some ⟨t, 0, none⟩), v, .int .i64 p] W (TGot W (rdT first F N p))) := Lib.hid (fun t W hT hB => TGet_any w.heap.size t _ _ _ v N F p W (by unfold nOf; split <;> omega) hN hT (hs.below hB) hb hp (fun i hi => (cR_good first i hi).2))
  obtain ⟨r, hr⟩ : ∃ r, rdT first F N p = r := ⟨_, rfl⟩
  rw [hr] at HG ⊢
  clear hs hb hp hr
  go_enter Tryz.func66, Tryz.ntmps66
  go_wp2_with (go_at_call 67; refine (HC.out _).mono ?_; rintro e w1 ⟨g1, c1, g2, c2, rfl, h2, hb⟩; have O2 := Lib.hid h2.c; have B1 := Lib.hid hb; clear h2 hb)
  rw [tab_len, codeC_strL] at O2
  go_loopw [11, 12] (fun v3 i wr => ∃ k : Nat, k ≤ 63 ∧ i = .int .i64 k ∧ Hid (wr.ownsRow w.heap.size 3 1 v3 k (((List.range k).map fun i : Nat => (i : Int)).map (Value.int .i64))) ∧ Hid (wr.ownsRow w.heap.size 9 1 (.slice (some ⟨g2, 0, none⟩) 63 c2) 63 (strL ((tab false).map (·.code)))) ∧ Hid (Below w.heap.size w wr)) (fun _ i _ => 63 - (intOf i).toNat)
  case atStart => exact ⟨0, by omega, rfl, Lib.hid (World.ownsRow_nil _ _ _ _), O2, B1⟩
  case round =>
    obtain ⟨k, hk, rfl, O3, P2, C1⟩ := hrel
    clear O2 B1
    by_cases hk63 : k < 63
    · have t1 : (k : Int) < 63 := by omega
      have z0 := C1.out.size
      go_wp2_with (at_builtin; refine wpList_append_own _ rfl _ _ 38 rfl w.heap.size 3 i0 (.int .i64 0) 1 8 Tryz.underlying38 hi hz0 hz1 hz2 rfl (by decide) _ _ _ rfl (O3.out.alloc _) ⟨wr.heap.size, 0, none⟩ 1 1 [.int .i64 (k : Int)] rfl rfl (cell_one_new _ _ _) (by simp [Value.oneCell']) (by unfold maxLen; omega) (by omega) (by simp; omega) ?_; intro v7 w7 own7 gr7 _; have P3 := Lib.hid own7; have P2 := Lib.hid ((P2.out.alloc (.cells #[.int .i64 (k : Int)] 3)).kept gr7 (own_apart (by decide) (P2.out.alloc (.cells #[.int .i64 (k : Int)] 3)) (O3.out.alloc (.cells #[.int .i64 (k : Int)] 3)))); have C1 := Lib.hid ((C1.out.alloc z0 (.cells #[.int .i64 (k : Int)] 3)).grown gr7 (by simp; omega) (fun q hq => (O3.out.lt q hq).1)); clear own7 gr7)
      go_roundw
      case rel => exact ⟨k + 1, by omega, by go_num, Lib.hid (by rw [List.range_succ, List.map_append, List.map_append]; exact P3.out), P2, C1⟩
      case measure => simp [intOf]; omega
    · obtain rfl : k = 63 := by omega
      have O2 := P2
      have B1 := C1
      have z0 := B1.out.size
      have FA := Lib.hid (O2.out.frozenAt 0)
      have CA := Lib.hid (O2.out.cellAt 0 (by decide))
      clear hk63 hk P2 C1
      cases first with
      | true =>
        have ca : wr.cell? ⟨g2, 0, none⟩ = some (sv (cs [true, true])) := by rw [CA.out]; rfl
        have fa := FA.out
        have ST := O2.out.stored 0 (sv (cs [true]))
        have O2a := Lib.hid ST.1
        have O3a := Lib.hid (O3.out.kept ST.2 (own_apart (by decide) O3.out O2.out))
        have B1a := Lib.hid (B1.out.grown ST.2 (by omega) (fun q hq => by cases hq; exact (O2.out.lt g2 rfl).1))
        rw [strL_set, ← tab_set] at O2a
        have hsv : sv (cs [true]) = .string ⟨#[49]⟩ := rfl
        rw [hsv] at O2a O3a B1a
        obtain ⟨WA, hWA⟩ : ∃ WA, wr.setCell ⟨g2, 0, none⟩ (.string ⟨#[49]⟩) = WA := ⟨_, rfl⟩
        rw [hWA] at O2a O3a B1a
        have za := B1a.out.size
        have LC := Lib.hid (show strL ((tab true).map (·.code)) ++ [.string ⟨#[48, 48, 48, 48, 48, 49]⟩] = strL (cR true) by simp [strL, cR, escC]; rfl)
        have LN := Lib.hid (show ((List.range 63).map fun i : Nat => (i : Int)).map (Value.int .i64) ++ [.int .i64 1000] = (nR true).map (Value.int .i64) by simp [nR])
        clear ST hsv
        go_wp2_with (first
          | (at_builtin; refine wpList_append_own _ rfl (.tmp 38) (.tmp 39) 98 rfl w.heap.size 9 j0 (.string ⟨#[]⟩) 1 16 Tryz.underlying98 gi gz0 gz1 gz2 rfl (by decide) _ _ _ rfl (O2a.out.alloc _) ⟨WA.heap.size, 0, none⟩ 1 1 [.string ⟨#[48, 48, 48, 48, 48, 49]⟩] rfl rfl (cell_one_new _ _ _) (by simp [Value.oneCell']) (by unfold maxLen; omega) (by omega) (by simp; omega) ?_; intro v8 w8 own8 gr8 _; obtain ⟨g8, c8, rfl, _, _⟩ := own8.form (by decide); have O2b := Lib.hid own8; have O3b := Lib.hid ((O3a.out.alloc (.cells #[.string ⟨#[48, 48, 48, 48, 48, 49]⟩] 9)).kept gr8 (own_apart (by decide) (O3a.out.alloc (.cells #[.string ⟨#[48, 48, 48, 48, 48, 49]⟩] 9)) (O2a.out.alloc (.cells #[.string ⟨#[48, 48, 48, 48, 48, 49]⟩] 9)))); have B1b := Lib.hid ((B1a.out.alloc B1a.out.size (.cells #[.string ⟨#[48, 48, 48, 48, 48, 49]⟩] 9)).grown gr8 (by simp; omega) (fun q hq => (O2a.out.lt q hq).1)); have z8 := B1b.out.size; clear own8 gr8)
          | (at_builtin; refine wpList_append_own _ rfl (.tmp 41) (.tmp 42) 38 rfl w.heap.size 3 i0 (.int .i64 0) 1 8 Tryz.underlying38 hi hz0 hz1 hz2 rfl (by decide) _ _ _ rfl (O3b.out.alloc _) ⟨w8.heap.size, 0, none⟩ 1 1 [.int .i64 1000] rfl rfl (cell_one_new _ _ _) (by simp [Value.oneCell']) (by unfold maxLen; omega) (by omega) (by simp; omega) ?_; intro v9 w9 own9 gr9 _; obtain ⟨g9, c9, rfl, _, _⟩ := own9.form (by decide); have A3 := Lib.hid own9; have A2 := Lib.hid ((O2b.out.alloc (.cells #[.int .i64 1000] 3)).kept gr9 (own_apart (by decide) (O2b.out.alloc (.cells #[.int .i64 1000] 3)) (O3b.out.alloc (.cells #[.int .i64 1000] 3)))); have B1c := Lib.hid ((B1b.out.alloc B1b.out.size (.cells #[.int .i64 1000] 3)).grown gr9 (by simp; omega) (fun q hq => (O3b.out.lt q hq).1)); have z9 := B1c.out.size; clear own9 gr9)
          | (go_at_call 90; refine (Make_any 64 _ _ _ _ (fun i => (cR true).getD i []) (fun i => (nR true).getD i 0) _ (by decide) (by decide) (Strs.of_own (by rw [← strL_C (cR true) 64 (cR_len true), ← LC.out]; exact A2.out)) (ints_own (by rw [← ints_C (nR true) 64 (nR_len true), ← LN.out]; exact A3.out)) (cR_good true) (cR_apart true)).mono ?_; rintro e wm ⟨t, rfl, hT, hB⟩; have TT := Lib.hid (hT.base (B' := w.heap.size)); have BB := Lib.hid (chain B1c.out hB); clear hT hB)
          | (go_at_call 91; refine (HG.out _ _ TT.out BB.out).mono ?_; rintro e wg ⟨rfl, hB⟩; have BC := Lib.hid (chain BB.out hB); clear hB))
        go_ret3
        exact ⟨rfl, BC.out⟩
      | false =>
        have LC := Lib.hid (show strL ((tab false).map (·.code)) ++ [.string ⟨#[49, 48]⟩] ++ [.string ⟨#[48, 48, 48, 48, 48, 49]⟩] = strL (cR false) by simp [strL, cR, escC]; exact ⟨rfl, rfl⟩)
        have LN := Lib.hid (show ((List.range 63).map fun i : Nat => (i : Int)).map (Value.int .i64) ++ [.int .i64 1001] ++ [.int .i64 1000] = (nR false).map (Value.int .i64) by simp [nR])
        go_wp2_with (first
          | (at_builtin; refine wpList_append_own _ rfl (.tmp 32) (.tmp 33) 98 rfl w.heap.size 9 j0 (.string ⟨#[]⟩) 1 16 Tryz.underlying98 gi gz0 gz1 gz2 rfl (by decide) _ _ _ rfl (O2.out.alloc _) ⟨wr.heap.size, 0, none⟩ 1 1 [.string ⟨#[49, 48]⟩] rfl rfl (cell_one_new _ _ _) (by simp [Value.oneCell']) (by unfold maxLen; omega) (by omega) (by simp; omega) ?_; intro v6 w6 own6 gr6 _; obtain ⟨g6, c6, rfl, _, _⟩ := own6.form (by decide); have O2d := Lib.hid own6; have O3d := Lib.hid ((O3.out.alloc (.cells #[.string ⟨#[49, 48]⟩] 9)).kept gr6 (own_apart (by decide) (O3.out.alloc (.cells #[.string ⟨#[49, 48]⟩] 9)) (O2.out.alloc (.cells #[.string ⟨#[49, 48]⟩] 9)))); have B1d := Lib.hid ((B1.out.alloc B1.out.size (.cells #[.string ⟨#[49, 48]⟩] 9)).grown gr6 (by simp; omega) (fun q hq => (O2.out.lt q hq).1)); have z6 := B1d.out.size; clear own6 gr6)
          | (at_builtin; refine wpList_append_own _ rfl (.tmp 35) (.tmp 36) 38 rfl w.heap.size 3 i0 (.int .i64 0) 1 8 Tryz.underlying38 hi hz0 hz1 hz2 rfl (by decide) _ _ _ rfl (O3d.out.alloc _) ⟨w6.heap.size, 0, none⟩ 1 1 [.int .i64 1001] rfl rfl (cell_one_new _ _ _) (by simp [Value.oneCell']) (by unfold maxLen; omega) (by omega) (by simp; omega) ?_; intro v7 w7 own7 gr7 _; obtain ⟨g7, c7, rfl, _, _⟩ := own7.form (by decide); have O3a := Lib.hid own7; have O2a := Lib.hid ((O2d.out.alloc (.cells #[.int .i64 1001] 3)).kept gr7 (own_apart (by decide) (O2d.out.alloc (.cells #[.int .i64 1001] 3)) (O3d.out.alloc (.cells #[.int .i64 1001] 3)))); have B1a := Lib.hid ((B1d.out.alloc B1d.out.size (.cells #[.int .i64 1001] 3)).grown gr7 (by simp; omega) (fun q hq => (O3d.out.lt q hq).1)); have z7 := B1a.out.size; clear own7 gr7)
          | (at_builtin; refine wpList_append_own _ rfl (.tmp 38) (.tmp 39) 98 rfl w.heap.size 9 j0 (.string ⟨#[]⟩) 1 16 Tryz.underlying98 gi gz0 gz1 gz2 rfl (by decide) _ _ _ rfl (O2a.out.alloc _) ⟨w7.heap.size, 0, none⟩ 1 1 [.string ⟨#[48, 48, 48, 48, 48, 49]⟩] rfl rfl (cell_one_new _ _ _) (by simp [Value.oneCell']) (by unfold maxLen; omega) (by omega) (by simp; omega) ?_; intro v8 w8 own8 gr8 _; obtain ⟨g8, c8, rfl, _, _⟩ := own8.form (by decide); have O2b := Lib.hid own8; have O3b := Lib.hid ((O3a.out.alloc (.cells #[.string ⟨#[48, 48, 48, 48, 48, 49]⟩] 9)).kept gr8 (own_apart (by decide) (O3a.out.alloc (.cells #[.string ⟨#[48, 48, 48, 48, 48, 49]⟩] 9)) (O2a.out.alloc (.cells #[.string ⟨#[48, 48, 48, 48, 48, 49]⟩] 9)))); have B1b := Lib.hid ((B1a.out.alloc B1a.out.size (.cells #[.string ⟨#[48, 48, 48, 48, 48, 49]⟩] 9)).grown gr8 (by simp; omega) (fun q hq => (O2a.out.lt q hq).1)); have z8 := B1b.out.size; clear own8 gr8)
          | (at_builtin; refine wpList_append_own _ rfl (.tmp 41) (.tmp 42) 38 rfl w.heap.size 3 i0 (.int .i64 0) 1 8 Tryz.underlying38 hi hz0 hz1 hz2 rfl (by decide) _ _ _ rfl (O3b.out.alloc _) ⟨w8.heap.size, 0, none⟩ 1 1 [.int .i64 1000] rfl rfl (cell_one_new _ _ _) (by simp [Value.oneCell']) (by unfold maxLen; omega) (by omega) (by simp; omega) ?_; intro v9 w9 own9 gr9 _; obtain ⟨g9, c9, rfl, _, _⟩ := own9.form (by decide); have A3 := Lib.hid own9; have A2 := Lib.hid ((O2b.out.alloc (.cells #[.int .i64 1000] 3)).kept gr9 (own_apart (by decide) (O2b.out.alloc (.cells #[.int .i64 1000] 3)) (O3b.out.alloc (.cells #[.int .i64 1000] 3)))); have B1c := Lib.hid ((B1b.out.alloc B1b.out.size (.cells #[.int .i64 1000] 3)).grown gr9 (by simp; omega) (fun q hq => (O3b.out.lt q hq).1)); have z9 := B1c.out.size; clear own9 gr9)
          | (go_at_call 90; refine (Make_any 65 _ _ _ _ (fun i => (cR false).getD i []) (fun i => (nR false).getD i 0) _ (by decide) (by decide) (Strs.of_own (by rw [← strL_C (cR false) 65 (cR_len false), ← LC.out]; exact A2.out)) (ints_own (by rw [← ints_C (nR false) 65 (nR_len false), ← LN.out]; exact A3.out)) (cR_good false) (cR_apart false)).mono ?_; rintro e wm ⟨t, rfl, hT, hB⟩; have TT := Lib.hid (hT.base (B' := w.heap.size)); have BB := Lib.hid (chain B1c.out hB); clear hT hB)
          | (go_at_call 91; refine (HG.out _ _ TT.out BB.out).mono ?_; rintro e wg ⟨rfl, hB⟩; have BC := Lib.hid (chain BB.out hB); clear hB))
        go_ret3
        exact ⟨rfl, BC.out⟩
end
end Cf
end Go.Proofs.YtpibeocngkjolaaGreatDoor
