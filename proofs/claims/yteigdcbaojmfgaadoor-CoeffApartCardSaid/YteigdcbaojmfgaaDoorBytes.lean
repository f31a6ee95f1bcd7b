/- Lists of bytes that statements share: side by side, written over, lent with room behind them. -/
import Derived.Test.YteigdcbaojmfgaaDoorArr
import Derived.Test.YteigdcbaojmfgaaDoorSlices
import Derived.Laws.BytesString
import Derived.Deep.RegionHeld3
import Derived.Deep.AppendLies
namespace Go.Proofs.YteigdcbaojmfgaaDoor
open Go.RowKit
set_option linter.unusedSimpArgs false
set_option linter.unusedVariables false

/-- the text of n bytes. -/
def strOf (n : Nat) (f : Nat → Int) : ByteArray := ((List.range n).map f).foldl (fun r x => r.push (UInt8.ofNat x.toNat)) ByteArray.empty
theorem strOf_congr {n : Nat} {f g : Nat → Int} (h : ∀ i, i < n → f i = g i) : strOf n f = strOf n g := by
  unfold strOf
  rw [List.map_congr_left (fun i hi => h i (List.mem_range.1 hi))]
theorem run_str {P : Program} {w : World} {src dst e : TypeId} (hs : P.underlying src = some (.slice e)) (he : P.underlying e = some (.int .u8)) (hd : P.underlying dst = some .string) {b o n : Nat} {f : Nat → Int} (h : Ints w .u8 b o n f) (c : Nat) :
    (convert src dst (.slice (some ⟨b, o, none⟩) n c)).run P w = .ok (.string (strOf n f)) w := by
  rw [run_convert_bytes_string w src dst e _ n c hs he hd]
  refine run_bytesToString w _ n c ((List.range n).map f) ?_
  have hl : (loadCells ⟨b, o, none⟩ (((List.range n).map f).map (Value.int .u8)).length).run P w = .ok (((List.range n).map f).map (Value.int .u8)).toArray w :=
    run_loadCells_list (P := P) w ⟨b, o, none⟩ _ (fun j v hv => by
      have hj : j < n := by
        have := (List.getElem?_eq_some_iff.1 hv).1
        simpa using this
      rw [Addr.add_lit, h j hj]
      simpa [hj] using hv)
  simpa using hl
theorem run_str_nil {P : Program} {w : World} {src dst e : TypeId} (hs : P.underlying src = some (.slice e)) (he : P.underlying e = some (.int .u8)) (hd : P.underlying dst = some .string) (a : Option Addr) (c : Nat) (f : Nat → Int) :
    (convert src dst (.slice a 0 c)).run P w = .ok (.string (strOf 0 f)) w := by
  rw [run_convert_bytes_string w src dst e _ 0 c hs he hd]
  cases a with
  | none => simp [Conv.bytesToString, strOf]
  | some a => exact run_bytesToString w a 0 c [] rfl
theorem run_str_sl {P : Program} {w : World} {src dst e : TypeId} (hs : P.underlying src = some (.slice e)) (he : P.underlying e = some (.int .u8)) (hd : P.underlying dst = some .string) {v : Value} {n : Nat} {f : Nat → Int} (h : Sl .u8 w v n f) :
    (convert src dst v).run P w = .ok (.string (strOf n f)) w := by
  obtain ⟨a, c, rfl, _, _, d⟩ := h
  rcases d with ⟨rfl, _⟩ | ⟨b, o, rfl, _, i⟩
  · exact run_str_nil hs he hd a c f
  · exact run_str hs he hd i c

theorem xor_byte (x : Int) : ∃ y : Int, bits BinOp.xor IntKind.u8 x 165 = y := ⟨_, rfl⟩
theorem info_byte : (Tryd.prog.info? 5).map (fun i => (i.zero, i.size, i.bytes)) = some (some (.int .u8 0), 1, 1) := by kernel_rfl
/-- bytes, and the four behind them. -/
def lentF (n : Nat) (f : Nat → Int) (i : Nat) : Int := if i < n then f i else 201 + ((i : Int) - n)
theorem lent_list (n : Nat) (f : Nat → Int) : ((List.range n).map fun i => Value.int .u8 (f i)) ++ [.int .u8 201, .int .u8 202, .int .u8 203, .int .u8 204] = (List.range (n + 4)).map fun i => Value.int .u8 (lentF n f i) := by
  have e : ∀ k, k ≤ n → ((List.range k).map fun i => Value.int .u8 (f i)) = (List.range k).map fun i => Value.int .u8 (lentF n f i) := by
    intro k hk
    apply List.map_congr_left
    intro i hi
    have := List.mem_range.1 hi
    unfold lentF
    rw [if_pos (by omega)]
  rw [e n (Nat.le_refl _)]
  rw [show n + 4 = n + 1 + 1 + 1 + 1 by omega, ← range_snoc, ← range_snoc, ← range_snoc, ← range_snoc]
  have g0 : lentF n f n = 201 := by unfold lentF; rw [if_neg (by omega)]; omega
  have g1 : lentF n f (n + 1) = 202 := by unfold lentF; rw [if_neg (by omega)]; omega
  have g2 : lentF n f (n + 1 + 1) = 203 := by unfold lentF; rw [if_neg (by omega)]; omega
  have g3 : lentF n f (n + 1 + 1 + 1) = 204 := by unfold lentF; rw [if_neg (by omega)]; omega
  rw [g0, g1, g2, g3]
  simp
theorem slice_to (g N c n : Nat) (h : n ≤ c) (w : World) : (Instr.slice 22 (.slice (some ⟨g, 0, none⟩) N c) none (some (.int .i64 (n : Int))) none).run Tryd.prog w = .ok (.slice (some ⟨g, 0, none⟩) n c) w := by
  have ht : Tryd.prog.underlying 22 = some (.slice (Tryd.prog.elem 22)) := by kernel_rfl
  obtain ⟨i0, hi, hz0, hz1, hz2⟩ := info_parts info_byte
  have he : Tryd.prog.elem 22 = 5 := by kernel_rfl
  rw [run_slice_h w 22 _ N c ht .i64 n (by omega) (by omega), he]
  have hs : (sizeOf 5).run Tryd.prog w = .ok 1 w := by simp [sizeOf, typeInfo, hi, hz1]
  rw [hs]
  simp only [Result.andThen, sliced, Int.toNat_natCast, Nat.sub_zero, Nat.zero_mul, Option.map_some]
  have ea : (⟨g, 0, none⟩ : Addr).add 0 = ⟨g, 0, none⟩ := by simp [Addr.add]
  rw [ea]
  simp
/-- what LentBytes comes to. -/
def Lent (w : World) (n : Nat) (f : Nat → Int) (e : Ending) (w' : World) : Prop :=
  ∃ g c, e = .returned (.slice (some ⟨g, 0, none⟩) n c) ∧ w.heap.size ≤ g ∧ g < w'.heap.size ∧ n + 4 ≤ c ∧ c ≤ maxLen ∧ Arr w' .u8 g (n + 4) (lentF n f) ∧ Below w.heap.size w w'

set_option maxRecDepth 100000 in
theorem LentBytes_row (b o c n : Nat) (f : Nat → Int) (w : World) (hn : n ≤ 1000000) (h1 : Ints w .u8 b o n f) :
    Calls Tryd.prog 10 #[.slice (some ⟨b, o, none⟩) n c] w (Lent w n f) := by
  obtain ⟨i0, hi, hz0, hz1, hz2⟩ := info_parts info_byte
  have NW := Lib.hid (news_ints (h1.alloc (.cells #[] 5)))
  have OW := Lib.hid (one_cells .u8 n f)
  clear h1
  have LL := Lib.hid (lent_list n f)
  go_enter Tryd.func10, Tryd.ntmps10
  go_wp2_with (first
    | (at_builtin; (refine wpList_append_own _ rfl (.tmp 4) (.tmp 5) 22 rfl w.heap.size 5 i0 (.int .u8 0) 1 1 Tryd.underlying22 hi hz0 hz1 hz2 rfl (by decide) _ _ _ rfl (World.ownsRow_made w #[] 0 (Nat.le_refl _) (Nat.zero_le _) rfl) ⟨b, o, none⟩ n c ((List.range n).map fun i => Value.int .u8 (f i)) rfl (by simp) NW.out OW.out (by unfold maxLen; omega) (by omega) (by simp) ?_); intro v' w1 hown hgr hnil; simp only [Nat.zero_add, List.nil_append] at hown; have hB1 : Below w.heap.size w w1 := ((Below.refl w.heap.size w).alloc (Nat.le_refl _) (.cells #[] 5)).grown hgr (by simp) (fun k hk => by cases hk; exact Nat.le_refl _); have OWN := Lib.hid hown; have HB1 := Lib.hid hB1; have sz := hB1.size; clear hown hgr hnil hB1)
    | (at_builtin; (refine wpList_append_own _ rfl (.tmp 7) (.tmp 8) 22 rfl w.heap.size 5 i0 (.int .u8 0) 1 1 Tryd.underlying22 hi hz0 hz1 hz2 rfl (by decide) _ _ _ rfl (OWN.out.alloc _) ⟨w1.heap.size, 0, none⟩ 4 4 [.int .u8 201, .int .u8 202, .int .u8 203, .int .u8 204] rfl rfl (World.news_of_block (cs := #[.int .u8 201, .int .u8 202, .int .u8 203, .int .u8 204]) (t := 5) (fr := (0, 0)) (heap_alloc_new w1 _)) (by simp [Value.oneCell']) (by unfold maxLen; omega) (by omega) (by simp; omega) ?_); intro v2 w2 hown2 hgr2 hnil2; rw [LL.out] at hown2; have hB2 : Below w.heap.size w w2 := (HB1.out.alloc sz (.cells #[.int .u8 201, .int .u8 202, .int .u8 203, .int .u8 204] 5)).grown hgr2 (by simp; omega) (fun q hq => (OWN.out.lt q hq).1); obtain ⟨g, c', hv, h1, h2, h3, h4, h5⟩ := Arr.of_own hown2 (by omega); subst hv; have HA := Lib.hid h5; have HB := Lib.hid hB2; have nb := fun W => slice_to g (n + 4) c' n (by omega) W; clear hown2 hgr2 hnil2 h5 hB2))
  go_ret
  exact ⟨g, c', rfl, h1, h2, h3, h4, HA.out, HB.out⟩

set_option maxRecDepth 100000 in
theorem LentBytes_nil (f : Nat → Int) (w : World) :
    Calls Tryd.prog 10 #[.slice none 0 0] w (Lent w 0 f) := by
  obtain ⟨i0, hi, hz0, hz1, hz2⟩ := info_parts info_byte
  have LL := Lib.hid (lent_list 0 f)
  have OWN := Lib.hid (World.ownsRow_made (base := w.heap.size) (e := 5) (size := 1) w #[] 0 (Nat.le_refl _) (Nat.zero_le _) rfl)
  go_enter Tryd.func10, Tryd.ntmps10
  go_wp2_with (at_builtin; (refine wpList_append_own _ rfl (.tmp 7) (.tmp 8) 22 rfl w.heap.size 5 i0 (.int .u8 0) 1 1 Tryd.underlying22 hi hz0 hz1 hz2 rfl (by decide) _ _ _ rfl (OWN.out.alloc _) ⟨w.heap.size + 1, 0, none⟩ 4 4 [.int .u8 201, .int .u8 202, .int .u8 203, .int .u8 204] rfl rfl (World.news_of_block (cs := #[.int .u8 201, .int .u8 202, .int .u8 203, .int .u8 204]) (t := 5) (fr := (0, 0)) (heap_alloc2_new w _ _)) (by simp [Value.oneCell']) (by unfold maxLen; omega) (by omega) (by simp; omega) ?_); intro v2 w2 hown2 hgr2 hnil2; rw [List.nil_append] at hown2; have LL' : [Value.int .u8 201, .int .u8 202, .int .u8 203, .int .u8 204] = (List.range (0 + 4)).map fun i => Value.int .u8 (lentF 0 f i) := LL.out; rw [LL'] at hown2; have hB2 : Below w.heap.size w w2 := (((Below.refl w.heap.size w).alloc (Nat.le_refl _) (.cells #[] 5)).alloc (by simp) (.cells #[.int .u8 201, .int .u8 202, .int .u8 203, .int .u8 204] 5)).grown hgr2 (by simp; omega) (fun q hq => (OWN.out.lt q hq).1); obtain ⟨g, c', hv, h1, h2, h3, h4, h5⟩ := Arr.of_own hown2 (by omega); subst hv; have HA := Lib.hid h5; have HB := Lib.hid hB2; have nb := fun W => slice_to g 4 c' 0 (by omega) W; clear hown2 hgr2 hnil2 h5 hB2 LL')
  go_ret
  exact ⟨g, c', rfl, h1, h2, h3, h4, HA.out, HB.out⟩
end Go.Proofs.YteigdcbaojmfgaaDoor
