/- The lists that statements share: held side by side, written over, copied. -/
import Derived.Test.YtngffhpkjekopaaMem
namespace Go.Proofs.Ytngffhpkjekopaa
open Go.RowKit
set_option linter.unusedSimpArgs false
set_option linter.unusedVariables false

set_option maxRecDepth 100000 in
/-- two lists of the same numbers are the same. -/
theorem SameInts_row (b1 o1 c1 b2 o2 c2 n : Nat) (f : Nat → Int) (w : World) (hn : n ≤ 1000000) (h1 : Ints w .i64 b1 o1 n f) (h2 : Ints w .i64 b2 o2 n f) :
    Calls Try.prog 14 #[.slice (some ⟨b1, o1, none⟩) n c1, .slice (some ⟨b2, o2, none⟩) n c2] w fun e w' => e = .returned (.bool true) ∧ Below w.heap.size w w' := by
  have H1 := Lib.hid h1
  have H2 := Lib.hid h2
  clear h1 h2
  go_enter Try.func14, Try.ntmps14
  go_wp2
  go_loopw [5] (fun i wr => ∃ k : Nat, k ≤ n ∧ i = .int .i64 k ∧ ∃ m, wr = w.drewN m) (fun i _ => n - (intOf i).toNat)
  case atStart => exact ⟨0, by omega, rfl, 0, rfl⟩
  case round =>
    obtain ⟨k, hk, rfl, m, rfl⟩ := hrel
    by_cases hkn : k < n
    · have e1 := H1.out k hkn
      have e2 := H2.out k hkn
      have b1 : (0 : Int) ≤ (k : Int) ∧ (k : Int) < (n : Int) := by omega
      go_wp2_with fail
      go_quiet (fail)
      go_wp2
      go_roundw
      case rel => exact ⟨k + 1, by omega, by go_num, _, rfl⟩
      case measure => simp [intOf]; omega
    · go_wp2
      go_ret
      exact ⟨rfl, below_drewN (Below.refl _ _) _⟩

theorem SameInts_nil (a1 a2 : Option Addr) (c1 c2 : Nat) (w : World) :
    Calls Try.prog 14 #[.slice a1 0 c1, .slice a2 0 c2] w fun e w' => e = .returned (.bool true) ∧ Below w.heap.size w w' := by
  go_enter Try.func14, Try.ntmps14
  go_wp2
  refine wp_loop_rounds 1 ?_
  rw [rounds_succ]
  go_wp2
  go_ret
  exact ⟨rfl, Below.refl _ _⟩
theorem SameInts_true (v1 v2 : Value) (n : Nat) (f g : Nat → Int) (w : World) (hn : n ≤ 1000000) (h1 : Sl .i64 w v1 n f) (h2 : Sl .i64 w v2 n g) (hfg : ∀ i, i < n → f i = g i) :
    Calls Try.prog 14 #[v1, v2] w fun e w' => e = .returned (.bool true) ∧ Below w.heap.size w w' := by
  obtain ⟨a1, c1, rfl, _, _, d1⟩ := h1
  obtain ⟨a2, c2, rfl, _, _, d2⟩ := h2
  rcases d1 with ⟨rfl, _⟩ | ⟨b1, o1, rfl, _, i1⟩
  · exact SameInts_nil _ _ _ _ _
  · rcases d2 with ⟨rfl, _⟩ | ⟨b2, o2, rfl, _, i2⟩
    · exact SameInts_nil _ _ _ _ _
    · exact SameInts_row _ _ _ _ _ _ _ _ _ hn i1 (i2.congr fun i hi => (hfg i hi).symm)

set_option maxRecDepth 100000 in
/-- a row of the call's own written over: nothing else has turned. -/
theorem OverInts_row (g n c : Nat) (f : Nat → Int) (w : World) (hn : n ≤ 1000000) (h : Arr w .i64 g n f) :
    Calls Try.prog 15 #[.slice (some ⟨g, 0, none⟩) n c] w fun e w' => e = .returned (.tuple #[]) ∧ w.grownBy w' (some g) := by
  have H := Lib.hid h
  clear h
  go_enter Try.func15, Try.ntmps15
  go_wp2
  go_loopw [2] (fun i wr => ∃ k : Nat, k ≤ n ∧ i = .int .i64 k ∧ (∃ f', Arr wr .i64 g n f') ∧ w.grownBy wr (some g)) (fun i _ => n - (intOf i).toNat)
  case atStart => exact ⟨0, by omega, rfl, ⟨f, H.out⟩, World.grownBy.refl _ _⟩
  case round =>
    obtain ⟨k, hk, rfl, ⟨f', hA⟩, hG⟩ := hrel
    by_cases hkn : k < n
    · have e1 := hA k hkn
      have HA := Lib.hid hA
      have HG := Lib.hid hG
      clear hA hG
      go_wp2
      go_roundw
      case rel => exact ⟨k + 1, by omega, by go_num, ⟨_, HA.out.set k _⟩, grown_set HG.out _ _⟩
      case measure => simp [intOf]; omega
    · go_wp2
      go_end0
      exact ⟨rfl, hG⟩
theorem OverInts_nil (w : World) :
    Calls Try.prog 15 #[.slice none 0 0] w fun e w' => e = .returned (.tuple #[]) ∧ w = w' := by
  go_enter Try.func15, Try.ntmps15
  go_wp2
  refine wp_loop_rounds 1 ?_
  rw [rounds_succ]
  go_wp2
  go_end0
  exact ⟨rfl, rfl⟩
/-- a list of the call's own written over: what lay below its first block is as it was. -/
theorem OverInts_any (v : Value) (n B : Nat) (f : Nat → Int) (w : World) (hn : n ≤ 1000000) (h : Res .i64 B w v n f) :
    Calls Try.prog 15 #[v] w fun e w' => e = .returned (.tuple #[]) ∧ w.grownBy w' v.ownBlock := by
  rcases h with ⟨rfl, rfl⟩ | ⟨g, c, rfl, _, _, _, _, hA⟩
  · exact (OverInts_nil w).mono fun e w' ⟨he, hw⟩ => ⟨he, by subst hw; exact World.grownBy.refl _ _⟩
  · exact OverInts_row g n c f w hn hA

theorem info_int : (Try.prog.info? 3).map (fun i => (i.zero, i.size, i.bytes)) = some (some (.int .i64 0), 1, 8) := by kernel_rfl
theorem news_ints {w : World} {k : IntKind} {b o n : Nat} {f : Nat → Int} (h : Ints w k b o n f) : ∀ j u, ((List.range n).map fun i => Value.int k (f i))[j]? = some u → w.cell? ((⟨b, o, none⟩ : Addr).add j) = some u := by
  intro j u hu
  have hj : j < n := by
    have := (List.getElem?_eq_some_iff.1 hu).1
    simpa using this
  rw [Addr.add_lit, h j hj]
  simpa [hj] using hu
theorem one_cells (k : IntKind) (n : Nat) (f : Nat → Int) : ∀ u ∈ (List.range n).map (fun i => Value.int k (f i)), u.oneCell' = true := by
  intro u hu
  obtain ⟨i, _, rfl⟩ := List.mem_map.1 hu
  rfl
/-- a copy of a list: a row of the call's own. -/
def Copied (k : IntKind) (w : World) (n : Nat) (f : Nat → Int) (e : Ending) (w' : World) : Prop :=
  ∃ g c, e = .returned (.slice (some ⟨g, 0, none⟩) n c) ∧ w.heap.size ≤ g ∧ g < w'.heap.size ∧ n ≤ c ∧ c ≤ maxLen ∧ Arr w' k g n f ∧ Below w.heap.size w w'
end Go.Proofs.Ytngffhpkjekopaa
