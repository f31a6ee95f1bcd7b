/- The document's read: a code of the table, the escape's beginning, or the end. -/
import Derived.Test.YteigdcbaojmfgaaDoorChO
namespace Go.Proofs.YteigdcbaojmfgaaDoor
open Go.RowKit
set_option linter.unusedSimpArgs false
set_option linter.unusedVariables false
namespace Cf
def escC : List Bool := [false, false, false, false, false, true]
def cR (first : Bool) : List (List Bool) := (tab first).map (·.code) ++ (if first then [escC] else [[true, false], escC])
def nR (first : Bool) : List Int := (List.range 63).map (fun i : Nat => (i : Int)) ++ (if first then [1000] else [1001, 1000])
def nOf (first : Bool) : Nat := if first then 64 else 65
theorem cR_len : ∀ first, (cR first).length = nOf first := by decide +kernel
theorem nR_len : ∀ first, (nR first).length = nOf first := by decide +kernel
theorem cR_good : ∀ first, ∀ i, i < nOf first → 1 ≤ ((cR first).getD i []).length ∧ ((cR first).getD i []).length ≤ 24 := by decide +kernel
theorem cR_apart : ∀ first, ∀ i, i < nOf first → ∀ j, j < nOf first → i ≠ j → begB (cs ((cR first).getD i [])) (cs ((cR first).getD j [])) = false := by decide +kernel
def strL (l : List (List Bool)) : List Value := l.map fun c => sv (cs c)
theorem codeC_strL (l : List Ent) : codeC l = strL (l.map (·.code)) := by simp [codeC, strL]
theorem tab_set : (tab true).map (·.code) = ((tab false).map (·.code)).set 0 [true] := by decide +kernel
theorem strL_set (l : List (List Bool)) (i : Nat) (c : List Bool) : (strL l).set i (sv (cs c)) = strL (l.set i c) := by simp [strL, List.map_set]
theorem strL_C (l : List (List Bool)) (n : Nat) (h : l.length = n) : strL l = strC n (fun i => l.getD i []) := by
  subst h
  unfold strL strC
  apply List.ext_getElem
  · simp
  · intro i h1 h2
    simp at h1 ⊢
    rw [List.getElem?_eq_getElem (by simpa using h1)]
    rfl
theorem ints_C (l : List Int) (n : Nat) (h : l.length = n) : l.map (Value.int .i64) = (List.range n).map fun i => Value.int .i64 (l.getD i 0) := by
  subst h
  apply List.ext_getElem
  · simp
  · intro i h1 h2
    simp at h1 ⊢
    rw [List.getElem?_eq_getElem (by simpa using h1)]
    rfl
/-- what read comes to. -/
def rdT (first : Bool) (F : Nat → Int) (N : Nat) (p : Int) : Int × Int × Int :=
  if p < 0 then (0, 0, 3) else tGet (nOf first) (fun i => (cR first).getD i []) (fun i => (nR first).getD i 0) (cs (seenL F p.toNat (min 24 (8 * N - p.toNat))))
theorem ints_own {w : World} {B g c n : Nat} {f : Nat → Int} (h : w.ownsRow B 3 1 (.slice (some ⟨g, 0, none⟩) n c) n ((List.range n).map fun i => Value.int .i64 (f i))) : Ints w .i64 g 0 n f := fun i hi => by rw [Nat.zero_add, h.cellAt i (by omega)]; simp [hi]
theorem Tr.base {B B' : Nat} {w : World} {t n : Nat} {C : Nat → List Bool} {f : Nat → Int} (h : Tr B w t n C f) : Tr B' w t n C f := ⟨h.ex⟩
section
set_option maxRecDepth 100000
set_option maxHeartbeats 4000000
set_option linter.unusedVariables false
theorem TGet_any (B t n : Nat) (C : Nat → List Bool) (f : Nat → Int) (v : Value) (N : Nat) (F : Nat → Int) (p : Int) (w : World) (hn : n ≤ 300) (hN : N ≤ 1000000) (hT : Tr B w t n C f) (hs : Sl .u8 w v N F) (hb : ∀ j, j < N → 0 ≤ F j ∧ F j ≤ 255) (hp : p ≤ 9223372036854775807) (hC : ∀ i, i < n → (C i).length ≤ 24) :
    Calls Tryd.prog 54 #[.pointer (some ⟨t, 0, none⟩), v, .int .i64 p] w (TGot w (if p < 0 then (0, 0, 3) else tGet n C f (cs (seenL F p.toNat (min 24 (8 * N - p.toNat)))))) := by
  by_cases h0 : p < 0
  · rw [if_pos h0]
    exact TGet_low t v p w h0
  · rw [if_neg h0]
    obtain ⟨q, rfl⟩ : ∃ q : Nat, p = (q : Int) := ⟨p.toNat, by omega⟩
    exact TGet_at B t n C f v N F q w hn hN hT hs hb (by omega) hC
theorem read_any (v : Value) (N : Nat) (F : Nat → Int) (p : Int) (first : Bool) (w : World) (hN : N ≤ 1000000) (hs : Sl .u8 w v N F) (hb : ∀ j, j < N → 0 ≤ F j ∧ F j ≤ 255) (hp : p ≤ 9223372036854775807) :
    Calls Tryd.prog 33 #[v, .int .i64 p, .bool first] w (TGot w (rdT first F N p)) := by
  obtain ⟨i0, hi, hz0, hz1, hz2⟩ := info_parts info_i64
  obtain ⟨j0, gi, gz0, gz1, gz2⟩ := info_parts info_str
  have HC := Lib.hid (fun W => Coded_any W)
  have HS := Lib.hid hs
  have HG : Hid (∀ (t : Nat) W, Tr w.heap.size W t (nOf first) (fun i => (cR first).getD i []) (fun i => (nR first).getD i 0) → Below w.heap.size w W → Calls Tryd.prog 54 #[.pointer (some ⟨t, 0, none⟩), v, .int .i64 p] W (TGot W (rdT first F N p))) := Lib.hid (fun t W hT hB => TGet_any w.heap.size t _ _ _ v N F p W (by unfold nOf; split <;> omega) hN hT (hs.below hB) hb hp (fun i hi => (cR_good first i hi).2))
  obtain ⟨r, hr⟩ : ∃ r, rdT first F N p = r := ⟨_, rfl⟩
  rw [hr] at HG ⊢
  clear hs hb hp hr
  go_enter Tryd.func33, Tryd.ntmps33
  go_wp2_with (go_at_call 35; refine (HC.out _).mono ?_; rintro e w1 ⟨g1, c1, g2, c2, rfl, h2, hb⟩; have O2 := Lib.hid h2.c; have B1 := Lib.hid hb; clear h2 hb)
  rw [tab_len, codeC_strL] at O2
  go_loopw [11, 12] (fun v3 i wr => ∃ k : Nat, k ≤ 63 ∧ i = .int .i64 k ∧ Hid (wr.ownsRow w.heap.size 3 1 v3 k (((List.range k).map fun i : Nat => (i : Int)).map (Value.int .i64))) ∧ Hid (wr.ownsRow w.heap.size 9 1 (.slice (some ⟨g2, 0, none⟩) 63 c2) 63 (strL ((tab false).map (·.code)))) ∧ Hid (Below w.heap.size w wr)) (fun _ i _ => 63 - (intOf i).toNat)
  case atStart => exact ⟨0, by omega, rfl, Lib.hid (World.ownsRow_nil _ _ _ _), O2, B1⟩
  case round =>
    obtain ⟨k, hk, rfl, O3, P2, C1⟩ := hrel
    clear O2 B1
    by_cases hk63 : k < 63
    · have t1 : (k : Int) < 63 := by omega
      have z0 := C1.out.size
      go_wp2_with (at_builtin; refine wpList_append_own _ rfl _ _ 38 rfl w.heap.size 3 i0 (.int .i64 0) 1 8 Tryd.underlying38 hi hz0 hz1 hz2 rfl (by decide) _ _ _ rfl (O3.out.alloc _) ⟨wr.heap.size, 0, none⟩ 1 1 [.int .i64 (k : Int)] rfl rfl (cell_one_new _ _ _) (by simp [Value.oneCell']) (by unfold maxLen; omega) (by omega) (by simp; omega) ?_; intro v7 w7 own7 gr7 _; have P3 := Lib.hid own7; have P2 := Lib.hid ((P2.out.alloc (.cells #[.int .i64 (k : Int)] 3)).kept gr7 (own_apart (by decide) (P2.out.alloc (.cells #[.int .i64 (k : Int)] 3)) (O3.out.alloc (.cells #[.int .i64 (k : Int)] 3)))); have C1 := Lib.hid ((C1.out.alloc z0 (.cells #[.int .i64 (k : Int)] 3)).grown gr7 (by simp; omega) (fun q hq => (O3.out.lt q hq).1)); clear own7 gr7)
      go_roundw
      case rel => exact ⟨k + 1, by omega, by go_num, Lib.hid (by rw [List.range_succ, List.map_append, List.map_append]; exact P3.out), P2, C1⟩
      case measure => simp [intOf]; omega
    · obtain rfl : k = 63 := by omega
      have O2 := P2
      have B1 := C1
      have z0 := B1.out.size
      have FA := Lib.hid (O2.out.frozenAt 0)
      have CA := Lib.hid (O2.out.cellAt 0 (by decide))
      clear hk63 hk P2 C1
      cases first with
      | true =>
        have ca : wr.cell? ⟨g2, 0, none⟩ = some (sv (cs [true, true])) := by rw [CA.out]; rfl
        have fa := FA.out
        have ST := O2.out.stored 0 (sv (cs [true]))
        have O2a := Lib.hid ST.1
        have O3a := Lib.hid (O3.out.kept ST.2 (own_apart (by decide) O3.out O2.out))
        have B1a := Lib.hid (B1.out.grown ST.2 (by omega) (fun q hq => by cases hq; exact (O2.out.lt g2 rfl).1))
        rw [strL_set, ← tab_set] at O2a
        have hsv : sv (cs [true]) = .string ⟨#[49]⟩ := rfl
        rw [hsv] at O2a O3a B1a
        obtain ⟨WA, hWA⟩ : ∃ WA, wr.setCell ⟨g2, 0, none⟩ (.string ⟨#[49]⟩) = WA := ⟨_, rfl⟩
        rw [hWA] at O2a O3a B1a
        have za := B1a.out.size
        have LC := Lib.hid (show strL ((tab true).map (·.code)) ++ [.string ⟨#[48, 48, 48, 48, 48, 49]⟩] = strL (cR true) by simp [strL, cR, escC]; rfl)
        have LN := Lib.hid (show ((List.range 63).map fun i : Nat => (i : Int)).map (Value.int .i64) ++ [.int .i64 1000] = (nR true).map (Value.int .i64) by simp [nR])
        clear ST hsv
        go_wp2_with (first
          | (at_builtin; refine wpList_append_own _ rfl (.tmp 38) (.tmp 39) 59 rfl w.heap.size 9 j0 (.string ⟨#[]⟩) 1 16 Tryd.underlying59 gi gz0 gz1 gz2 rfl (by decide) _ _ _ rfl (O2a.out.alloc _) ⟨WA.heap.size, 0, none⟩ 1 1 [.string ⟨#[48, 48, 48, 48, 48, 49]⟩] rfl rfl (cell_one_new _ _ _) (by simp [Value.oneCell']) (by unfold maxLen; omega) (by omega) (by simp; omega) ?_; intro v8 w8 own8 gr8 _; obtain ⟨g8, c8, rfl, _, _⟩ := own8.form (by decide); have O2b := Lib.hid own8; have O3b := Lib.hid ((O3a.out.alloc (.cells #[.string ⟨#[48, 48, 48, 48, 48, 49]⟩] 9)).kept gr8 (own_apart (by decide) (O3a.out.alloc (.cells #[.string ⟨#[48, 48, 48, 48, 48, 49]⟩] 9)) (O2a.out.alloc (.cells #[.string ⟨#[48, 48, 48, 48, 48, 49]⟩] 9)))); have B1b := Lib.hid ((B1a.out.alloc B1a.out.size (.cells #[.string ⟨#[48, 48, 48, 48, 48, 49]⟩] 9)).grown gr8 (by simp; omega) (fun q hq => (O2a.out.lt q hq).1)); have z8 := B1b.out.size; clear own8 gr8)
          | (at_builtin; refine wpList_append_own _ rfl (.tmp 41) (.tmp 42) 38 rfl w.heap.size 3 i0 (.int .i64 0) 1 8 Tryd.underlying38 hi hz0 hz1 hz2 rfl (by decide) _ _ _ rfl (O3b.out.alloc _) ⟨w8.heap.size, 0, none⟩ 1 1 [.int .i64 1000] rfl rfl (cell_one_new _ _ _) (by simp [Value.oneCell']) (by unfold maxLen; omega) (by omega) (by simp; omega) ?_; intro v9 w9 own9 gr9 _; obtain ⟨g9, c9, rfl, _, _⟩ := own9.form (by decide); have A3 := Lib.hid own9; have A2 := Lib.hid ((O2b.out.alloc (.cells #[.int .i64 1000] 3)).kept gr9 (own_apart (by decide) (O2b.out.alloc (.cells #[.int .i64 1000] 3)) (O3b.out.alloc (.cells #[.int .i64 1000] 3)))); have B1c := Lib.hid ((B1b.out.alloc B1b.out.size (.cells #[.int .i64 1000] 3)).grown gr9 (by simp; omega) (fun q hq => (O3b.out.lt q hq).1)); have z9 := B1c.out.size; clear own9 gr9)
          | (go_at_call 53; refine (Make_any 64 _ _ _ _ (fun i => (cR true).getD i []) (fun i => (nR true).getD i 0) _ (by decide) (by decide) (Strs.of_own (by rw [← strL_C (cR true) 64 (cR_len true), ← LC.out]; exact A2.out)) (ints_own (by rw [← ints_C (nR true) 64 (nR_len true), ← LN.out]; exact A3.out)) (cR_good true) (cR_apart true)).mono ?_; rintro e wm ⟨t, rfl, hT, hB⟩; have TT := Lib.hid (hT.base (B' := w.heap.size)); have BB := Lib.hid (chain B1c.out hB); clear hT hB)
          | (go_at_call 54; refine (HG.out _ _ TT.out BB.out).mono ?_; rintro e wg ⟨rfl, hB⟩; have BC := Lib.hid (chain BB.out hB); clear hB))
        go_ret3
        exact ⟨rfl, BC.out⟩
      | false =>
        have LC := Lib.hid (show strL ((tab false).map (·.code)) ++ [.string ⟨#[49, 48]⟩] ++ [.string ⟨#[48, 48, 48, 48, 48, 49]⟩] = strL (cR false) by simp [strL, cR, escC]; exact ⟨rfl, rfl⟩)
        have LN := Lib.hid (show ((List.range 63).map fun i : Nat => (i : Int)).map (Value.int .i64) ++ [.int .i64 1001] ++ [.int .i64 1000] = (nR false).map (Value.int .i64) by simp [nR])
        go_wp2_with (first
          | (at_builtin; refine wpList_append_own _ rfl (.tmp 32) (.tmp 33) 59 rfl w.heap.size 9 j0 (.string ⟨#[]⟩) 1 16 Tryd.underlying59 gi gz0 gz1 gz2 rfl (by decide) _ _ _ rfl (O2.out.alloc _) ⟨wr.heap.size, 0, none⟩ 1 1 [.string ⟨#[49, 48]⟩] rfl rfl (cell_one_new _ _ _) (by simp [Value.oneCell']) (by unfold maxLen; omega) (by omega) (by simp; omega) ?_; intro v6 w6 own6 gr6 _; obtain ⟨g6, c6, rfl, _, _⟩ := own6.form (by decide); have O2d := Lib.hid own6; have O3d := Lib.hid ((O3.out.alloc (.cells #[.string ⟨#[49, 48]⟩] 9)).kept gr6 (own_apart (by decide) (O3.out.alloc (.cells #[.string ⟨#[49, 48]⟩] 9)) (O2.out.alloc (.cells #[.string ⟨#[49, 48]⟩] 9)))); have B1d := Lib.hid ((B1.out.alloc B1.out.size (.cells #[.string ⟨#[49, 48]⟩] 9)).grown gr6 (by simp; omega) (fun q hq => (O2.out.lt q hq).1)); have z6 := B1d.out.size; clear own6 gr6)
          | (at_builtin; refine wpList_append_own _ rfl (.tmp 35) (.tmp 36) 38 rfl w.heap.size 3 i0 (.int .i64 0) 1 8 Tryd.underlying38 hi hz0 hz1 hz2 rfl (by decide) _ _ _ rfl (O3d.out.alloc _) ⟨w6.heap.size, 0, none⟩ 1 1 [.int .i64 1001] rfl rfl (cell_one_new _ _ _) (by simp [Value.oneCell']) (by unfold maxLen; omega) (by omega) (by simp; omega) ?_; intro v7 w7 own7 gr7 _; obtain ⟨g7, c7, rfl, _, _⟩ := own7.form (by decide); have O3a := Lib.hid own7; have O2a := Lib.hid ((O2d.out.alloc (.cells #[.int .i64 1001] 3)).kept gr7 (own_apart (by decide) (O2d.out.alloc (.cells #[.int .i64 1001] 3)) (O3d.out.alloc (.cells #[.int .i64 1001] 3)))); have B1a := Lib.hid ((B1d.out.alloc B1d.out.size (.cells #[.int .i64 1001] 3)).grown gr7 (by simp; omega) (fun q hq => (O3d.out.lt q hq).1)); have z7 := B1a.out.size; clear own7 gr7)
          | (at_builtin; refine wpList_append_own _ rfl (.tmp 38) (.tmp 39) 59 rfl w.heap.size 9 j0 (.string ⟨#[]⟩) 1 16 Tryd.underlying59 gi gz0 gz1 gz2 rfl (by decide) _ _ _ rfl (O2a.out.alloc _) ⟨w7.heap.size, 0, none⟩ 1 1 [.string ⟨#[48, 48, 48, 48, 48, 49]⟩] rfl rfl (cell_one_new _ _ _) (by simp [Value.oneCell']) (by unfold maxLen; omega) (by omega) (by simp; omega) ?_; intro v8 w8 own8 gr8 _; obtain ⟨g8, c8, rfl, _, _⟩ := own8.form (by decide); have O2b := Lib.hid own8; have O3b := Lib.hid ((O3a.out.alloc (.cells #[.string ⟨#[48, 48, 48, 48, 48, 49]⟩] 9)).kept gr8 (own_apart (by decide) (O3a.out.alloc (.cells #[.string ⟨#[48, 48, 48, 48, 48, 49]⟩] 9)) (O2a.out.alloc (.cells #[.string ⟨#[48, 48, 48, 48, 48, 49]⟩] 9)))); have B1b := Lib.hid ((B1a.out.alloc B1a.out.size (.cells #[.string ⟨#[48, 48, 48, 48, 48, 49]⟩] 9)).grown gr8 (by simp; omega) (fun q hq => (O2a.out.lt q hq).1)); have z8 := B1b.out.size; clear own8 gr8)
          | (at_builtin; refine wpList_append_own _ rfl (.tmp 41) (.tmp 42) 38 rfl w.heap.size 3 i0 (.int .i64 0) 1 8 Tryd.underlying38 hi hz0 hz1 hz2 rfl (by decide) _ _ _ rfl (O3b.out.alloc _) ⟨w8.heap.size, 0, none⟩ 1 1 [.int .i64 1000] rfl rfl (cell_one_new _ _ _) (by simp [Value.oneCell']) (by unfold maxLen; omega) (by omega) (by simp; omega) ?_; intro v9 w9 own9 gr9 _; obtain ⟨g9, c9, rfl, _, _⟩ := own9.form (by decide); have A3 := Lib.hid own9; have A2 := Lib.hid ((O2b.out.alloc (.cells #[.int .i64 1000] 3)).kept gr9 (own_apart (by decide) (O2b.out.alloc (.cells #[.int .i64 1000] 3)) (O3b.out.alloc (.cells #[.int .i64 1000] 3)))); have B1c := Lib.hid ((B1b.out.alloc B1b.out.size (.cells #[.int .i64 1000] 3)).grown gr9 (by simp; omega) (fun q hq => (O3b.out.lt q hq).1)); have z9 := B1c.out.size; clear own9 gr9)
          | (go_at_call 53; refine (Make_any 65 _ _ _ _ (fun i => (cR false).getD i []) (fun i => (nR false).getD i 0) _ (by decide) (by decide) (Strs.of_own (by rw [← strL_C (cR false) 65 (cR_len false), ← LC.out]; exact A2.out)) (ints_own (by rw [← ints_C (nR false) 65 (nR_len false), ← LN.out]; exact A3.out)) (cR_good false) (cR_apart false)).mono ?_; rintro e wm ⟨t, rfl, hT, hB⟩; have TT := Lib.hid (hT.base (B' := w.heap.size)); have BB := Lib.hid (chain B1c.out hB); clear hT hB)
          | (go_at_call 54; refine (HG.out _ _ TT.out BB.out).mono ?_; rintro e wg ⟨rfl, hB⟩; have BC := Lib.hid (chain BB.out hB); clear hB))
        go_ret3
        exact ⟨rfl, BC.out⟩
end
end Cf
end Go.Proofs.YteigdcbaojmfgaaDoor
