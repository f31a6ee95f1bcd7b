/- Bytes copied. -/
import Derived.Test.YtkeempljogjceaaSlices
import Derived.Test.YtkeempljogjceaaBytes
namespace Go.Proofs.Ytkeempljogjceaa
open Go.RowKit

set_option maxRecDepth 100000 in
theorem CopyBytes_row (b o c n : Nat) (f : Nat → Int) (w : World) (hn : n ≤ 1000000) (h1 : Ints w .u8 b o n f) :
    Calls Try.prog 26 #[.slice (some ⟨b, o, none⟩) n c] w (Copied .u8 w n f) := by
  obtain ⟨i0, hi, hz0, hz1, hz2⟩ := info_parts info_byte
  have H1 := Lib.hid h1
  have NW := Lib.hid (news_ints (h1.alloc (.cells #[] 5)))
  have OW := Lib.hid (one_cells .u8 n f)
  clear h1
  go_enter Try.func26, Try.ntmps26
  go_wp2_with (at_builtin; go_loud (refine wpList_append_own _ rfl _ _ 24 rfl w.heap.size 5 i0 (.int .u8 0) 1 1 Try.underlying24 hi hz0 hz1 hz2 rfl (by decide) _ _ _ rfl (World.ownsRow_made w #[] 0 (Nat.le_refl _) (Nat.zero_le _) rfl) ⟨b, o, none⟩ n c ((List.range n).map fun i => Value.int .u8 (f i)) rfl (by simp) NW.out OW.out (by unfold maxLen; omega) (by omega) (by simp) ?_); intro v' w1 hown hgr hnil)
  simp only [Nat.zero_add, List.nil_append] at hown
  obtain ⟨g, c', hv, h1, h2, h3, h4, h5⟩ := Arr.of_own' hown (fun h => by have := (hnil.1 h).1; cases this)
  have hB : Below w.heap.size w w1 := ((Below.refl w.heap.size w).alloc (Nat.le_refl _) (.cells #[] 5)).grown hgr (by simp) (fun k hk => by cases hk; exact Nat.le_refl _)
  subst hv
  have HA := Lib.hid h5
  have HB := Lib.hid hB
  clear hown hgr hnil h5 hB
  go_ret
  exact ⟨g, c', rfl, h1, h2, h3, h4, HA.out, HB.out⟩

set_option maxRecDepth 100000 in
theorem CopyBytes_nil (f : Nat → Int) (w : World) :
    Calls Try.prog 26 #[.slice none 0 0] w (Copied .u8 w 0 f) := by
  go_enter Try.func26, Try.ntmps26
  go_wp2
  go_ret
  exact ⟨_, _, rfl, Nat.le_refl _, by simp, Nat.le_refl _, Nat.zero_le _, fun i hi => by omega, (Below.refl _ _).alloc (Nat.le_refl _) _⟩
set_option maxRecDepth 100000 in
theorem CopyBytes_empty (a : Addr) (c : Nat) (f : Nat → Int) (w : World) :
    Calls Try.prog 26 #[.slice (some a) 0 c] w (Copied .u8 w 0 f) := by
  obtain ⟨i0, hi, hz0, hz1, hz2⟩ := info_parts info_byte
  go_enter Try.func26, Try.ntmps26
  go_wp2_with (at_builtin; (refine wpList_append_own _ rfl _ _ 24 rfl w.heap.size 5 i0 (.int .u8 0) 1 1 Try.underlying24 hi hz0 hz1 hz2 rfl (by decide) _ _ _ rfl (World.ownsRow_made w #[] 0 (Nat.le_refl _) (Nat.zero_le _) rfl) a 0 c [] rfl (by simp) (by simp) (by simp) (by unfold maxLen; omega) (by omega) (by simp) ?_); intro v' w1 hown hgr hnil)
  simp only [Nat.zero_add, List.nil_append] at hown
  obtain ⟨g, c', hv, h1, h2, h3, h4, h5⟩ := Arr.of_own' (k := .u8) (n := 0) (f := f) (by simpa using hown) (fun h => by have := (hnil.1 h).1; cases this)
  have hB : Below w.heap.size w w1 := ((Below.refl w.heap.size w).alloc (Nat.le_refl _) (.cells #[] 5)).grown hgr (by simp) (fun k hk => by cases hk; exact Nat.le_refl _)
  subst hv
  have HA := Lib.hid h5
  have HB := Lib.hid hB
  clear hown hgr hnil h5 hB
  go_ret
  exact ⟨g, c', rfl, h1, h2, h3, h4, HA.out, HB.out⟩
theorem CopyBytes_any (v : Value) (n : Nat) (f : Nat → Int) (w : World) (hn : n ≤ 1000000) (hs : Sl .u8 w v n f) :
    Calls Try.prog 26 #[v] w (Copied .u8 w n f) := by
  obtain ⟨a, c, rfl, h1, h2, h3⟩ := hs
  rcases h3 with ⟨rfl, h5⟩ | ⟨b, o, rfl, _, h4⟩
  · cases a with
    | none =>
      obtain rfl : c = 0 := h5 rfl
      exact CopyBytes_nil f w
    | some a => exact CopyBytes_empty a c f w
  · exact CopyBytes_row b o c n f w hn h4
end Go.Proofs.Ytkeempljogjceaa
