/- paint: numbers cut; samples and residues put together. -/
import Derived.Test.YtbmglemjfodfhaaGreatMgCpB
import Derived.Lib.MinMax
set_option linter.unusedVariables false
set_option linter.unusedSimpArgs false

namespace Go.Proofs.YtbmglemjfodfhaaGreat
open Go.RowKit
namespace Pa

def clipF (n : Int) : Int := max 0 (min n 255)
theorem clip_bd (n : Int) : 0 ≤ clipF n ∧ clipF n ≤ 255 := by unfold clipF; omega
theorem Clip_any (n : Int) (w : World) : Calls Tryz.prog 99 #[.int .i64 n] w fun e w' => e = .returned (.int .u8 (clipF n)) ∧ w = w' := by
  have mn := fun w' => Lib.run_min_ints (P := Tryz.prog) w' #[3, 3] 3 .i64 .i64 n 255
  have mx := fun w' => Lib.run_max_ints (P := Tryz.prog) w' #[3, 3] 3 .i64 .i64 0 (min n 255)
  obtain ⟨m, hm⟩ : ∃ m, max 0 (min n 255) = m := ⟨_, rfl⟩
  have HM : Hid (clipF n = m) := Lib.hid hm
  have hb := clip_bd n
  have hb : 0 ≤ m ∧ m ≤ 255 := by rw [← hm]; exact hb
  simp only [hm] at mx
  clear hm
  go_enter Tryz.func99, Tryz.ntmps99
  go_wp2
  go_ret
  exact ⟨by rw [HM.out]; rfl, rfl⟩
theorem Add1_any (x n : Int) (hx : 0 ≤ x ∧ x ≤ 255) (hn : -1048576 ≤ n ∧ n ≤ 1048576) (w : World) : Calls Tryz.prog 98 #[.int .u8 x, .int .i64 n] w fun e w' => e = .returned (.int .u8 (clipF (x + n))) ∧ w = w' := by
  go_enter Tryz.func98, Tryz.ntmps98
  go_wp2_with (go_at_call 99; refine (Clip_any _ _).mono ?_; rintro e w1 ⟨rfl, rfl⟩)
  go_ret
  exact ⟨rfl, rfl⟩
set_option maxRecDepth 100000 in
theorem zip_row (b1 o1 c1 b2 o2 c2 n : Nat) (f g : Nat → Int) (w : World) (hn : n ≤ 1000000) (h1 : Ints w .u8 b1 o1 n f) (h2 : Ints w .i64 b2 o2 n g) (bf : ∀ i, i < n → 0 ≤ f i ∧ f i ≤ 255) (bg : ∀ i, i < n → -1048576 ≤ g i ∧ g i ≤ 1048576) :
    Calls Tryz.prog 97 #[.slice (some ⟨b1, o1, none⟩) n c1, .slice (some ⟨b2, o2, none⟩) n c2, .func (.func 98) #[] #[]] w fun e w' => ∃ v, e = .returned v ∧ Res .u8 w.heap.size w' v n (fun i => clipF (f i + g i)) ∧ Below w.heap.size w w' := by
  obtain ⟨i0, hi, hz0, hz1, hz2⟩ := info_parts info_byte
  have H1 := Lib.hid h1
  have H2 := Lib.hid h2
  have BF := Lib.hid bf
  have BG := Lib.hid bg
  clear h1 h2 bf bg
  go_enter Tryz.func97, Tryz.ntmps97
  go_wp2
  go_loopw [7, 12] (fun v i wr => ∃ k : Nat, k ≤ n ∧ i = .int .i64 k ∧ wr.ownsRow w.heap.size 5 1 v k ((List.range k).map fun j => .int .u8 (clipF (f j + g j))) ∧ Below w.heap.size w wr) (fun _ i _ => n - (intOf i).toNat)
  case atStart => exact ⟨0, by omega, rfl, World.ownsRow_nil _ _ _ _, Below.refl _ _⟩
  case round =>
    obtain ⟨k, hk, rfl, hown, hB⟩ := hrel
    have OWN := Lib.hid hown
    have HB := Lib.hid hB
    have sz := hB.size
    clear hown hB
    by_cases hkn : k < n
    · have e1 := (H1.out.below HB.out (H1.out.lt (by omega))) k hkn
      have e2 := (H2.out.below HB.out (H2.out.lt (by omega))) k hkn
      have bf := BF.out k hkn
      have bg := BG.out k hkn
      have b1 : (0 : Int) ≤ (k : Int) ∧ (k : Int) < (n : Int) := by omega
      obtain ⟨x, hx⟩ : ∃ x, clipF (f k + g k) = x := ⟨_, rfl⟩
      have HX := Lib.hid hx
      clear hx
      go_wp2_with (first
        | (go_at_call 98; refine (Add1_any _ _ bf bg _).mono ?_; rintro e w1 ⟨rfl, rfl⟩; rw [HX.out])
        | (at_builtin; refine wpList_append_own _ rfl _ _ 30 rfl w.heap.size 5 i0 (.int .u8 0) 1 1 Tryz.underlying30 hi hz0 hz1 hz2 rfl (by decide) _ _ _ rfl (OWN.out.alloc _) ⟨wr.heap.size, 0, none⟩ 1 1 [.int .u8 x] rfl rfl (cell_one_new _ _ _) (by simp [Value.oneCell']) (by unfold maxLen; omega) (by omega) (by simp; omega) ?_; intro v' w1 hown2 hgr hnil))
      have hB1 : Below w.heap.size w w1 := (HB.out.alloc sz (.cells #[.int .u8 x] 5)).grown hgr (by simp; omega) (fun q hq => (OWN.out.lt q hq).1)
      have hown3 : w1.ownsRow w.heap.size 5 1 v' (k + 1) ((List.range (k + 1)).map fun j => .int .u8 (clipF (f j + g j))) := by rw [← range_snoc, HX.out]; exact hown2
      have OW3 := Lib.hid hown3
      have HB1 := Lib.hid hB1
      clear hown2 hgr hnil hown3 hB1
      go_wp2
      go_roundw
      case rel => exact ⟨k + 1, by omega, by go_num, OW3.out, HB1.out⟩
      case measure => simp [intOf]; omega
    · obtain rfl : k = n := by omega
      go_wp2_with fail
      go_ret
      exact ⟨_, rfl, Res.of_own OWN.out, HB.out⟩
/-- are the first k residues small enough? -/
def okR (g : Nat → Int) (k : Nat) : Prop := ∀ i, i < k → -1048576 ≤ g i ∧ g i ≤ 1048576
instance (g : Nat → Int) (k : Nat) : Decidable (okR g k) := inferInstanceAs (Decidable (∀ i, i < k → -1048576 ≤ g i ∧ g i ≤ 1048576))
def addE (N M : Nat) (g : Nat → Int) : Int := if N ≠ 64 ∨ M ≠ 64 then 2 else if okR g 64 then 0 else 3
def addN (N M : Nat) (g : Nat → Int) : Nat := if addE N M g = 0 then 64 else 0
def addF (f g : Nat → Int) (i : Nat) : Int := clipF (f i + g i)
theorem addF_bd (f g : Nat → Int) (i : Nat) : 0 ≤ addF f g i ∧ addF f g i ≤ 255 := clip_bd _
theorem add_no1 (a1 a2 : Option Addr) (N c1 M c2 : Nat) (g : Nat → Int) (w : World) (h : N ≠ 64) :
    Calls Tryz.prog 54 #[.slice a1 N c1, .slice a2 M c2] w fun e w' => e = .returned (.tuple #[.slice none 0 0, .int .i64 (addE N M g)]) ∧ w = w' := by
  have E : Hid (addE N M g = 2) := Lib.hid (by unfold addE; rw [if_pos (.inl h)])
  have t1 : ((N : Int) != 64) = true := by simp; omega
  clear h
  go_enter Tryz.func54, Tryz.ntmps54
  go_wp2_with fail
  go_ret2
  exact ⟨by rw [E.out]; rfl, rfl⟩
theorem add_no2 (a1 a2 : Option Addr) (c1 M c2 : Nat) (g : Nat → Int) (w : World) (h : M ≠ 64) :
    Calls Tryz.prog 54 #[.slice a1 64 c1, .slice a2 M c2] w fun e w' => e = .returned (.tuple #[.slice none 0 0, .int .i64 (addE 64 M g)]) ∧ w = w' := by
  have E : Hid (addE 64 M g = 2) := Lib.hid (by unfold addE; rw [if_pos (.inr h)])
  have t1 : ((M : Int) != 64) = true := by simp; omega
  clear h
  go_enter Tryz.func54, Tryz.ntmps54
  go_wp2_with fail
  go_ret2
  exact ⟨by rw [E.out]; rfl, rfl⟩
set_option maxRecDepth 100000 in
theorem add_yes (b1 o1 c1 b2 o2 c2 : Nat) (f g : Nat → Int) (w : World) (h1 : Ints w .u8 b1 o1 64 f) (h2 : Ints w .i64 b2 o2 64 g) (bf : ∀ i, i < 64 → 0 ≤ f i ∧ f i ≤ 255) :
    Calls Tryz.prog 54 #[.slice (some ⟨b1, o1, none⟩) 64 c1, .slice (some ⟨b2, o2, none⟩) 64 c2] w fun e w' => ∃ v, e = .returned (.tuple #[v, .int .i64 (addE 64 64 g)]) ∧ Res .u8 w.heap.size w' v (addN 64 64 g) (addF f g) ∧ Below w.heap.size w w' := by
  have H1 := Lib.hid h1
  have H2 := Lib.hid h2
  have BF := Lib.hid bf
  clear h1 h2 bf
  go_enter Tryz.func54, Tryz.ntmps54
  go_wp2_with fail
  go_loopw [18] (fun i wr => ∃ k : Nat, k ≤ 64 ∧ i = .int .i64 k ∧ okR g k ∧ wr = w) (fun i _ => 64 - (intOf i).toNat)
  case atStart => exact ⟨0, by omega, rfl, fun i hi => by omega, rfl⟩
  case round =>
    obtain ⟨k, hk, rfl, hok, hw⟩ := hrel
    obtain rfl := hw.symm
    have OK := Lib.hid hok
    clear hok hw
    by_cases hkn : k < 64
    · have e2 := H2.out k hkn
      have b1 : (0 : Int) ≤ (k : Int) ∧ (k : Int) < 64 := by omega
      by_cases l1 : g k < -1048576
      · have E : Hid (addE 64 64 g = 3) := Lib.hid (by unfold addE; rw [if_neg (by omega), if_neg (fun h => by have := h k hkn; omega)])
        go_wp2_with fail
        go_ret2
        exact ⟨_, by rw [E.out]; rfl, .inl ⟨by unfold addN; rw [E.out]; rfl, rfl⟩, Below.refl _ _⟩
      · by_cases l2 : 1048576 < g k
        · have E : Hid (addE 64 64 g = 3) := Lib.hid (by unfold addE; rw [if_neg (by omega), if_neg (fun h => by have := h k hkn; omega)])
          go_wp2_with fail
          go_ret2
          exact ⟨_, by rw [E.out]; rfl, .inl ⟨by unfold addN; rw [E.out]; rfl, rfl⟩, Below.refl _ _⟩
        · have OK2 : Hid (okR g (k + 1)) := Lib.hid (fun i hi => by
            by_cases e : i = k
            · subst e; omega
            · exact OK.out i (by omega))
          go_wp2_with fail
          go_roundw
          case rel => exact ⟨k + 1, by omega, by go_num, OK2.out, by trivial⟩
          case measure => simp [intOf]; omega
    · obtain rfl : k = 64 := by omega
      have E : Hid (addE 64 64 g = 0) := Lib.hid (by unfold addE; rw [if_neg (by omega), if_pos OK.out])
      go_wp2_with (go_at_call 97; refine (zip_row b1 o1 c1 b2 o2 c2 64 f g _ (by omega) H1.out H2.out BF.out OK.out).mono ?_; rintro e w1 ⟨v, rfl, hR, hB⟩; have HR := Lib.hid hR; have HB := Lib.hid hB; clear hR hB)
      go_ret2
      exact ⟨_, by rw [E.out]; rfl, by unfold addN; rw [E.out, if_pos rfl]; exact HR.out, HB.out⟩
theorem Add_any (va vb : Value) (N M : Nat) (f g : Nat → Int) (w : World) (h1 : Sl .u8 w va N f) (h2 : Sl .i64 w vb M g) (bf : ∀ i, i < N → 0 ≤ f i ∧ f i ≤ 255) :
    Calls Tryz.prog 54 #[va, vb] w fun e w' => ∃ v, e = .returned (.tuple #[v, .int .i64 (addE N M g)]) ∧ Res .u8 w.heap.size w' v (addN N M g) (addF f g) ∧ Below w.heap.size w w' := by
  obtain ⟨a1, c1, rfl, _, _, d1⟩ := h1
  obtain ⟨a2, c2, rfl, _, _, d2⟩ := h2
  by_cases hN : N = 64
  · by_cases hM : M = 64
    · subst hN hM
      rcases d1 with ⟨h0, _⟩ | ⟨b1, o1, rfl, _, i1⟩
      · omega
      · rcases d2 with ⟨h0, _⟩ | ⟨b2, o2, rfl, _, i2⟩
        · omega
        · exact add_yes _ _ _ _ _ _ _ _ _ i1 i2 bf
    · subst hN
      refine (add_no2 a1 a2 c1 M c2 g w hM).mono ?_
      rintro e w' ⟨rfl, rfl⟩
      exact ⟨_, rfl, .inl ⟨by unfold addN; rw [show addE 64 M g = 2 by unfold addE; rw [if_pos (.inr hM)]]; rfl, rfl⟩, Below.refl _ _⟩
  · refine (add_no1 a1 a2 N c1 M c2 g w hN).mono ?_
    rintro e w' ⟨rfl, rfl⟩
    exact ⟨_, rfl, .inl ⟨by unfold addN; rw [show addE N M g = 2 by unfold addE; rw [if_pos (.inl hN)]]; rfl, rfl⟩, Below.refl _ _⟩
theorem made_sl {w : World} {base N : Nat} {e : TypeId} {k : IntKind} {v : Value} (h : w.ownsRow base e 1 v N (madeCells (Value.int k 0).cells (N * 1)).toList) : Res k base w v N (fun _ => 0) :=
  Res.of_own (by
    have e : (madeCells (Value.int k 0).cells (N * 1)).toList = (List.range N).map fun _ => Value.int k 0 := by
      apply List.ext_getElem
      · simp [madeCells, Value.cells]
      · intro i h1 h2
        simp [madeCells, Value.cells, Nat.mod_one]
    rwa [e] at h)
end Pa
end Go.Proofs.YtbmglemjfodfhaaGreat
