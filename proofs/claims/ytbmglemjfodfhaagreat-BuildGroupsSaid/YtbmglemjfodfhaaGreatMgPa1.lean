/- Lists of bytes that statements share: side by side, written over, lent with room behind them. | Bytes copied. | paint: numbers cut; samples and residues put together. -/
import Derived.Test.YtbmglemjfodfhaaGreatMgArrB
import Derived.Test.YtbmglemjfodfhaaGreatMgSlices
import Derived.Deep.AppendLies
import Derived.Deep.RegionHeld3
import Derived.Laws.BytesString
import Derived.Lib.MinMax
set_option linter.unusedVariables false
set_option linter.unusedSimpArgs false
namespace Go.Proofs.YtbmglemjfodfhaaGreat
open Go.RowKit
def strOf (n : Nat) (f : Nat → Int) : ByteArray := ((List.range n).map f).foldl (fun r x => r.push (UInt8.ofNat x.toNat)) ByteArray.empty
theorem strOf_congr {n : Nat} {f g : Nat → Int} (h : ∀ i, i < n → f i = g i) : strOf n f = strOf n g := by
  unfold strOf
  rw [List.map_congr_left (fun i hi => h i (List.mem_range.1 hi))]
theorem run_str {P : Program} {w : World} {src dst e : TypeId} (hs : P.underlying src = some (.slice e)) (he : P.underlying e = some (.int .u8)) (hd : P.underlying dst = some .string) {b o n : Nat} {f : Nat → Int} (h : Ints w .u8 b o n f) (c : Nat) :
    (convert src dst (.slice (some ⟨b, o, none⟩) n c)).run P w = .ok (.string (strOf n f)) w := by
  rw [run_convert_bytes_string w src dst e _ n c hs he hd]
  refine run_bytesToString w _ n c ((List.range n).map f) ?_
  have hl : (loadCells ⟨b, o, none⟩ (((List.range n).map f).map (Value.int .u8)).length).run P w = .ok (((List.range n).map f).map (Value.int .u8)).toArray w :=
    run_loadCells_list (P := P) w ⟨b, o, none⟩ _ (fun j v hv => by
      have hj : j < n := by
        have := (List.getElem?_eq_some_iff.1 hv).1
        simpa using this
      rw [Addr.add_lit, h j hj]
      simpa [hj] using hv)
  simpa using hl
theorem run_str_nil {P : Program} {w : World} {src dst e : TypeId} (hs : P.underlying src = some (.slice e)) (he : P.underlying e = some (.int .u8)) (hd : P.underlying dst = some .string) (a : Option Addr) (c : Nat) (f : Nat → Int) :
    (convert src dst (.slice a 0 c)).run P w = .ok (.string (strOf 0 f)) w := by
  rw [run_convert_bytes_string w src dst e _ 0 c hs he hd]
  cases a with
  | none => simp [Conv.bytesToString, strOf]
  | some a => exact run_bytesToString w a 0 c [] rfl
theorem run_str_sl {P : Program} {w : World} {src dst e : TypeId} (hs : P.underlying src = some (.slice e)) (he : P.underlying e = some (.int .u8)) (hd : P.underlying dst = some .string) {v : Value} {n : Nat} {f : Nat → Int} (h : Sl .u8 w v n f) :
    (convert src dst v).run P w = .ok (.string (strOf n f)) w := by
  obtain ⟨a, c, rfl, _, _, d⟩ := h
  rcases d with ⟨rfl, _⟩ | ⟨b, o, rfl, _, i⟩
  · exact run_str_nil hs he hd a c f
  · exact run_str hs he hd i c
theorem SameBytes_true (v1 v2 : Value) (n : Nat) (f g : Nat → Int) (w : World) (h1 : Sl .u8 w v1 n f) (h2 : Sl .u8 w v2 n g) (hfg : ∀ i, i < n → f i = g i) :
    Calls Tryz.prog 17 #[v1, v2] w fun e w' => e = .returned (.bool true) ∧ w = w' := by
  have e1 := run_str_sl Tryz.underlying30 Tryz.underlying5 Tryz.underlying9 h1
  have e2 := run_str_sl Tryz.underlying30 Tryz.underlying5 Tryz.underlying9 h2
  rw [← strOf_congr hfg] at e2
  clear h1 h2 hfg
  go_enter Tryz.func17, Tryz.ntmps17
  go_wp2
  go_ret
  exact ⟨rfl, rfl⟩
theorem info_byte : (Tryz.prog.info? 5).map (fun i => (i.zero, i.size, i.bytes)) = some (some (.int .u8 0), 1, 1) := by kernel_rfl
def lentF (n : Nat) (f : Nat → Int) (i : Nat) : Int := if i < n then f i else 201 + ((i : Int) - n)
theorem lent_list (n : Nat) (f : Nat → Int) : ((List.range n).map fun i => Value.int .u8 (f i)) ++ [.int .u8 201, .int .u8 202, .int .u8 203, .int .u8 204] = (List.range (n + 4)).map fun i => Value.int .u8 (lentF n f i) := by
  have e : ∀ k, k ≤ n → ((List.range k).map fun i => Value.int .u8 (f i)) = (List.range k).map fun i => Value.int .u8 (lentF n f i) := by
    intro k hk
    apply List.map_congr_left
    intro i hi
    have := List.mem_range.1 hi
    unfold lentF
    rw [if_pos (by omega)]
  rw [e n (Nat.le_refl _)]
  rw [show n + 4 = n + 1 + 1 + 1 + 1 by omega, ← range_snoc, ← range_snoc, ← range_snoc, ← range_snoc]
  have g0 : lentF n f n = 201 := by unfold lentF; rw [if_neg (by omega)]; omega
  have g1 : lentF n f (n + 1) = 202 := by unfold lentF; rw [if_neg (by omega)]; omega
  have g2 : lentF n f (n + 1 + 1) = 203 := by unfold lentF; rw [if_neg (by omega)]; omega
  have g3 : lentF n f (n + 1 + 1 + 1) = 204 := by unfold lentF; rw [if_neg (by omega)]; omega
  rw [g0, g1, g2, g3]
  simp
theorem slice_to (g N c n : Nat) (h : n ≤ c) (w : World) : (Instr.slice 30 (.slice (some ⟨g, 0, none⟩) N c) none (some (.int .i64 (n : Int))) none).run Tryz.prog w = .ok (.slice (some ⟨g, 0, none⟩) n c) w := by
  have ht : Tryz.prog.underlying 30 = some (.slice (Tryz.prog.elem 30)) := by kernel_rfl
  obtain ⟨i0, hi, hz0, hz1, hz2⟩ := info_parts info_byte
  have he : Tryz.prog.elem 30 = 5 := by kernel_rfl
  rw [run_slice_h w 30 _ N c ht .i64 n (by omega) (by omega), he]
  have hs : (sizeOf 5).run Tryz.prog w = .ok 1 w := by simp [sizeOf, typeInfo, hi, hz1]
  rw [hs]
  simp only [Result.andThen, sliced, Int.toNat_natCast, Nat.sub_zero, Nat.zero_mul, Option.map_some]
  have ea : (⟨g, 0, none⟩ : Addr).add 0 = ⟨g, 0, none⟩ := by simp [Addr.add]
  rw [ea]
  simp
def Lent (w : World) (n : Nat) (f : Nat → Int) (e : Ending) (w' : World) : Prop :=
  ∃ g c, e = .returned (.slice (some ⟨g, 0, none⟩) n c) ∧ w.heap.size ≤ g ∧ g < w'.heap.size ∧ n + 4 ≤ c ∧ c ≤ maxLen ∧ Arr w' .u8 g (n + 4) (lentF n f) ∧ Below w.heap.size w w'
set_option maxRecDepth 100000 in
theorem LentBytes_row (b o c n : Nat) (f : Nat → Int) (w : World) (hn : n ≤ 1000000) (h1 : Ints w .u8 b o n f) :
    Calls Tryz.prog 21 #[.slice (some ⟨b, o, none⟩) n c] w (Lent w n f) := by
  obtain ⟨i0, hi, hz0, hz1, hz2⟩ := info_parts info_byte
  have NW := Lib.hid (news_ints (h1.alloc (.cells #[] 5)))
  have OW := Lib.hid (one_cells .u8 n f)
  clear h1
  have LL := Lib.hid (lent_list n f)
  go_enter Tryz.func21, Tryz.ntmps21
  go_wp2_with (first
    | (at_builtin; (refine wpList_append_own _ rfl (.tmp 4) (.tmp 5) 30 rfl w.heap.size 5 i0 (.int .u8 0) 1 1 Tryz.underlying30 hi hz0 hz1 hz2 rfl (by decide) _ _ _ rfl (World.ownsRow_made w #[] 0 (Nat.le_refl _) (Nat.zero_le _) rfl) ⟨b, o, none⟩ n c ((List.range n).map fun i => Value.int .u8 (f i)) rfl (by simp) NW.out OW.out (by unfold maxLen; omega) (by omega) (by simp) ?_); intro v' w1 hown hgr hnil; simp only [Nat.zero_add, List.nil_append] at hown; have hB1 : Below w.heap.size w w1 := ((Below.refl w.heap.size w).alloc (Nat.le_refl _) (.cells #[] 5)).grown hgr (by simp) (fun k hk => by cases hk; exact Nat.le_refl _); have OWN := Lib.hid hown; have HB1 := Lib.hid hB1; have sz := hB1.size; clear hown hgr hnil hB1)
    | (at_builtin; (refine wpList_append_own _ rfl (.tmp 7) (.tmp 8) 30 rfl w.heap.size 5 i0 (.int .u8 0) 1 1 Tryz.underlying30 hi hz0 hz1 hz2 rfl (by decide) _ _ _ rfl (OWN.out.alloc _) ⟨w1.heap.size, 0, none⟩ 4 4 [.int .u8 201, .int .u8 202, .int .u8 203, .int .u8 204] rfl rfl (World.news_of_block (cs := #[.int .u8 201, .int .u8 202, .int .u8 203, .int .u8 204]) (t := 5) (fr := (0, 0)) (heap_alloc_new w1 _)) (by simp [Value.oneCell']) (by unfold maxLen; omega) (by omega) (by simp; omega) ?_); intro v2 w2 hown2 hgr2 hnil2; rw [LL.out] at hown2; have hB2 : Below w.heap.size w w2 := (HB1.out.alloc sz (.cells #[.int .u8 201, .int .u8 202, .int .u8 203, .int .u8 204] 5)).grown hgr2 (by simp; omega) (fun q hq => (OWN.out.lt q hq).1); obtain ⟨g, c', hv, h1, h2, h3, h4, h5⟩ := Arr.of_own hown2 (by omega); subst hv; have HA := Lib.hid h5; have HB := Lib.hid hB2; have nb := fun W => slice_to g (n + 4) c' n (by omega) W; clear hown2 hgr2 hnil2 h5 hB2))
  go_ret
  exact ⟨g, c', rfl, h1, h2, h3, h4, HA.out, HB.out⟩
set_option maxRecDepth 100000 in
theorem LentBytes_nil (f : Nat → Int) (w : World) :
    Calls Tryz.prog 21 #[.slice none 0 0] w (Lent w 0 f) := by
  obtain ⟨i0, hi, hz0, hz1, hz2⟩ := info_parts info_byte
  have LL := Lib.hid (lent_list 0 f)
  have OWN := Lib.hid (World.ownsRow_made (base := w.heap.size) (e := 5) (size := 1) w #[] 0 (Nat.le_refl _) (Nat.zero_le _) rfl)
  go_enter Tryz.func21, Tryz.ntmps21
  go_wp2_with (at_builtin; (refine wpList_append_own _ rfl (.tmp 7) (.tmp 8) 30 rfl w.heap.size 5 i0 (.int .u8 0) 1 1 Tryz.underlying30 hi hz0 hz1 hz2 rfl (by decide) _ _ _ rfl (OWN.out.alloc _) ⟨w.heap.size + 1, 0, none⟩ 4 4 [.int .u8 201, .int .u8 202, .int .u8 203, .int .u8 204] rfl rfl (World.news_of_block (cs := #[.int .u8 201, .int .u8 202, .int .u8 203, .int .u8 204]) (t := 5) (fr := (0, 0)) (heap_alloc2_new w _ _)) (by simp [Value.oneCell']) (by unfold maxLen; omega) (by omega) (by simp; omega) ?_); intro v2 w2 hown2 hgr2 hnil2; rw [List.nil_append] at hown2; have LL' : [Value.int .u8 201, .int .u8 202, .int .u8 203, .int .u8 204] = (List.range (0 + 4)).map fun i => Value.int .u8 (lentF 0 f i) := LL.out; rw [LL'] at hown2; have hB2 : Below w.heap.size w w2 := (((Below.refl w.heap.size w).alloc (Nat.le_refl _) (.cells #[] 5)).alloc (by simp) (.cells #[.int .u8 201, .int .u8 202, .int .u8 203, .int .u8 204] 5)).grown hgr2 (by simp; omega) (fun q hq => (OWN.out.lt q hq).1); obtain ⟨g, c', hv, h1, h2, h3, h4, h5⟩ := Arr.of_own hown2 (by omega); subst hv; have HA := Lib.hid h5; have HB := Lib.hid hB2; have nb := fun W => slice_to g 4 c' 0 (by omega) W; clear hown2 hgr2 hnil2 h5 hB2 LL')
  go_ret
  exact ⟨g, c', rfl, h1, h2, h3, h4, HA.out, HB.out⟩
end Go.Proofs.YtbmglemjfodfhaaGreat
namespace Go.Proofs.YtbmglemjfodfhaaGreat
open Go.RowKit
set_option maxRecDepth 100000 in
theorem CopyBytes_row (b o c n : Nat) (f : Nat → Int) (w : World) (hn : n ≤ 1000000) (h1 : Ints w .u8 b o n f) :
    Calls Tryz.prog 14 #[.slice (some ⟨b, o, none⟩) n c] w (Copied .u8 w n f) := by
  obtain ⟨i0, hi, hz0, hz1, hz2⟩ := info_parts info_byte
  have H1 := Lib.hid h1
  have NW := Lib.hid (news_ints (h1.alloc (.cells #[] 5)))
  have OW := Lib.hid (one_cells .u8 n f)
  clear h1
  go_enter Tryz.func14, Tryz.ntmps14
  go_wp2_with (at_builtin; go_loud (refine wpList_append_own _ rfl _ _ 30 rfl w.heap.size 5 i0 (.int .u8 0) 1 1 Tryz.underlying30 hi hz0 hz1 hz2 rfl (by decide) _ _ _ rfl (World.ownsRow_made w #[] 0 (Nat.le_refl _) (Nat.zero_le _) rfl) ⟨b, o, none⟩ n c ((List.range n).map fun i => Value.int .u8 (f i)) rfl (by simp) NW.out OW.out (by unfold maxLen; omega) (by omega) (by simp) ?_); intro v' w1 hown hgr hnil)
  simp only [Nat.zero_add, List.nil_append] at hown
  obtain ⟨g, c', hv, h1, h2, h3, h4, h5⟩ := Arr.of_own' hown (fun h => by have := (hnil.1 h).1; cases this)
  have hB : Below w.heap.size w w1 := ((Below.refl w.heap.size w).alloc (Nat.le_refl _) (.cells #[] 5)).grown hgr (by simp) (fun k hk => by cases hk; exact Nat.le_refl _)
  subst hv
  have HA := Lib.hid h5
  have HB := Lib.hid hB
  clear hown hgr hnil h5 hB
  go_ret
  exact ⟨g, c', rfl, h1, h2, h3, h4, HA.out, HB.out⟩
set_option maxRecDepth 100000 in
theorem CopyBytes_nil (f : Nat → Int) (w : World) :
    Calls Tryz.prog 14 #[.slice none 0 0] w (Copied .u8 w 0 f) := by
  go_enter Tryz.func14, Tryz.ntmps14
  go_wp2
  go_ret
  exact ⟨_, _, rfl, Nat.le_refl _, by simp, Nat.le_refl _, Nat.zero_le _, fun i hi => by omega, (Below.refl _ _).alloc (Nat.le_refl _) _⟩
set_option maxRecDepth 100000 in
theorem CopyBytes_empty (a : Addr) (c : Nat) (f : Nat → Int) (w : World) :
    Calls Tryz.prog 14 #[.slice (some a) 0 c] w (Copied .u8 w 0 f) := by
  obtain ⟨i0, hi, hz0, hz1, hz2⟩ := info_parts info_byte
  go_enter Tryz.func14, Tryz.ntmps14
  go_wp2_with (at_builtin; (refine wpList_append_own _ rfl _ _ 30 rfl w.heap.size 5 i0 (.int .u8 0) 1 1 Tryz.underlying30 hi hz0 hz1 hz2 rfl (by decide) _ _ _ rfl (World.ownsRow_made w #[] 0 (Nat.le_refl _) (Nat.zero_le _) rfl) a 0 c [] rfl (by simp) (by simp) (by simp) (by unfold maxLen; omega) (by omega) (by simp) ?_); intro v' w1 hown hgr hnil)
  simp only [Nat.zero_add, List.nil_append] at hown
  obtain ⟨g, c', hv, h1, h2, h3, h4, h5⟩ := Arr.of_own' (k := .u8) (n := 0) (f := f) (by simpa using hown) (fun h => by have := (hnil.1 h).1; cases this)
  have hB : Below w.heap.size w w1 := ((Below.refl w.heap.size w).alloc (Nat.le_refl _) (.cells #[] 5)).grown hgr (by simp) (fun k hk => by cases hk; exact Nat.le_refl _)
  subst hv
  have HA := Lib.hid h5
  have HB := Lib.hid hB
  clear hown hgr hnil h5 hB
  go_ret
  exact ⟨g, c', rfl, h1, h2, h3, h4, HA.out, HB.out⟩
theorem CopyBytes_any (v : Value) (n : Nat) (f : Nat → Int) (w : World) (hn : n ≤ 1000000) (hs : Sl .u8 w v n f) :
    Calls Tryz.prog 14 #[v] w (Copied .u8 w n f) := by
  obtain ⟨a, c, rfl, h1, h2, h3⟩ := hs
  rcases h3 with ⟨rfl, h5⟩ | ⟨b, o, rfl, _, h4⟩
  · cases a with
    | none =>
      obtain rfl : c = 0 := h5 rfl
      exact CopyBytes_nil f w
    | some a => exact CopyBytes_empty a c f w
  · exact CopyBytes_row b o c n f w hn h4
end Go.Proofs.YtbmglemjfodfhaaGreat
namespace Go.Proofs.YtbmglemjfodfhaaGreat
open Go.RowKit
namespace Pa
def clipF (n : Int) : Int := max 0 (min n 255)
theorem clip_bd (n : Int) : 0 ≤ clipF n ∧ clipF n ≤ 255 := by unfold clipF; omega
theorem Clip_any (n : Int) (w : World) : Calls Tryz.prog 99 #[.int .i64 n] w fun e w' => e = .returned (.int .u8 (clipF n)) ∧ w = w' := by
  have mn := fun w' => Lib.run_min_ints (P := Tryz.prog) w' #[3, 3] 3 .i64 .i64 n 255
  have mx := fun w' => Lib.run_max_ints (P := Tryz.prog) w' #[3, 3] 3 .i64 .i64 0 (min n 255)
  obtain ⟨m, hm⟩ : ∃ m, max 0 (min n 255) = m := ⟨_, rfl⟩
  have HM : Hid (clipF n = m) := Lib.hid hm
  have hb := clip_bd n
  have hb : 0 ≤ m ∧ m ≤ 255 := by rw [← hm]; exact hb
  simp only [hm] at mx
  clear hm
  go_enter Tryz.func99, Tryz.ntmps99
  go_wp2
  go_ret
  exact ⟨by rw [HM.out]; rfl, rfl⟩
theorem Add1_any (x n : Int) (hx : 0 ≤ x ∧ x ≤ 255) (hn : -1048576 ≤ n ∧ n ≤ 1048576) (w : World) : Calls Tryz.prog 98 #[.int .u8 x, .int .i64 n] w fun e w' => e = .returned (.int .u8 (clipF (x + n))) ∧ w = w' := by
  go_enter Tryz.func98, Tryz.ntmps98
  go_wp2_with (go_at_call 99; refine (Clip_any _ _).mono ?_; rintro e w1 ⟨rfl, rfl⟩)
  go_ret
  exact ⟨rfl, rfl⟩
set_option maxRecDepth 100000 in
theorem zip_row (b1 o1 c1 b2 o2 c2 n : Nat) (f g : Nat → Int) (w : World) (hn : n ≤ 1000000) (h1 : Ints w .u8 b1 o1 n f) (h2 : Ints w .i64 b2 o2 n g) (bf : ∀ i, i < n → 0 ≤ f i ∧ f i ≤ 255) (bg : ∀ i, i < n → -1048576 ≤ g i ∧ g i ≤ 1048576) :
    Calls Tryz.prog 97 #[.slice (some ⟨b1, o1, none⟩) n c1, .slice (some ⟨b2, o2, none⟩) n c2, .func (.func 98) #[] #[]] w fun e w' => ∃ v, e = .returned v ∧ Res .u8 w.heap.size w' v n (fun i => clipF (f i + g i)) ∧ Below w.heap.size w w' := by
  obtain ⟨i0, hi, hz0, hz1, hz2⟩ := info_parts info_byte
  have H1 := Lib.hid h1
  have H2 := Lib.hid h2
  have BF := Lib.hid bf
  have BG := Lib.hid bg
  clear h1 h2 bf bg
  go_enter Tryz.func97, Tryz.ntmps97
  go_wp2
  go_loopw [7, 12] (fun v i wr => ∃ k : Nat, k ≤ n ∧ i = .int .i64 k ∧ wr.ownsRow w.heap.size 5 1 v k ((List.range k).map fun j => .int .u8 (clipF (f j + g j))) ∧ Below w.heap.size w wr) (fun _ i _ => n - (intOf i).toNat)
  case atStart => exact ⟨0, by omega, rfl, World.ownsRow_nil _ _ _ _, Below.refl _ _⟩
  case round =>
    obtain ⟨k, hk, rfl, hown, hB⟩ := hrel
    have OWN := Lib.hid hown
    have HB := Lib.hid hB
    have sz := hB.size
    clear hown hB
    by_cases hkn : k < n
    · have e1 := (H1.out.below HB.out (H1.out.lt (by omega))) k hkn
      have e2 := (H2.out.below HB.out (H2.out.lt (by omega))) k hkn
      have bf := BF.out k hkn
      have bg := BG.out k hkn
      have b1 : (0 : Int) ≤ (k : Int) ∧ (k : Int) < (n : Int) := by omega
      obtain ⟨x, hx⟩ : ∃ x, clipF (f k + g k) = x := ⟨_, rfl⟩
      have HX := Lib.hid hx
      clear hx
      go_wp2_with (first
        | (go_at_call 98; refine (Add1_any _ _ bf bg _).mono ?_; rintro e w1 ⟨rfl, rfl⟩; rw [HX.out])
        | (at_builtin; refine wpList_append_own _ rfl _ _ 30 rfl w.heap.size 5 i0 (.int .u8 0) 1 1 Tryz.underlying30 hi hz0 hz1 hz2 rfl (by decide) _ _ _ rfl (OWN.out.alloc _) ⟨wr.heap.size, 0, none⟩ 1 1 [.int .u8 x] rfl rfl (cell_one_new _ _ _) (by simp [Value.oneCell']) (by unfold maxLen; omega) (by omega) (by simp; omega) ?_; intro v' w1 hown2 hgr hnil))
      have hB1 : Below w.heap.size w w1 := (HB.out.alloc sz (.cells #[.int .u8 x] 5)).grown hgr (by simp; omega) (fun q hq => (OWN.out.lt q hq).1)
      have hown3 : w1.ownsRow w.heap.size 5 1 v' (k + 1) ((List.range (k + 1)).map fun j => .int .u8 (clipF (f j + g j))) := by rw [← range_snoc, HX.out]; exact hown2
      have OW3 := Lib.hid hown3
      have HB1 := Lib.hid hB1
      clear hown2 hgr hnil hown3 hB1
      go_wp2
      go_roundw
      case rel => exact ⟨k + 1, by omega, by go_num, OW3.out, HB1.out⟩
      case measure => simp [intOf]; omega
    · obtain rfl : k = n := by omega
      go_wp2_with fail
      go_ret
      exact ⟨_, rfl, Res.of_own OWN.out, HB.out⟩
def okR (g : Nat → Int) (k : Nat) : Prop := ∀ i, i < k → -1048576 ≤ g i ∧ g i ≤ 1048576
instance (g : Nat → Int) (k : Nat) : Decidable (okR g k) := inferInstanceAs (Decidable (∀ i, i < k → -1048576 ≤ g i ∧ g i ≤ 1048576))
def addE (N M : Nat) (g : Nat → Int) : Int := if N ≠ 64 ∨ M ≠ 64 then 2 else if okR g 64 then 0 else 3
def addN (N M : Nat) (g : Nat → Int) : Nat := if addE N M g = 0 then 64 else 0
def addF (f g : Nat → Int) (i : Nat) : Int := clipF (f i + g i)
theorem add_no1 (a1 a2 : Option Addr) (N c1 M c2 : Nat) (g : Nat → Int) (w : World) (h : N ≠ 64) :
    Calls Tryz.prog 54 #[.slice a1 N c1, .slice a2 M c2] w fun e w' => e = .returned (.tuple #[.slice none 0 0, .int .i64 (addE N M g)]) ∧ w = w' := by
  have E : Hid (addE N M g = 2) := Lib.hid (by unfold addE; rw [if_pos (.inl h)])
  have t1 : ((N : Int) != 64) = true := by simp; omega
  clear h
  go_enter Tryz.func54, Tryz.ntmps54
  go_wp2_with fail
  go_ret2
  exact ⟨by rw [E.out]; rfl, rfl⟩
theorem add_no2 (a1 a2 : Option Addr) (c1 M c2 : Nat) (g : Nat → Int) (w : World) (h : M ≠ 64) :
    Calls Tryz.prog 54 #[.slice a1 64 c1, .slice a2 M c2] w fun e w' => e = .returned (.tuple #[.slice none 0 0, .int .i64 (addE 64 M g)]) ∧ w = w' := by
  have E : Hid (addE 64 M g = 2) := Lib.hid (by unfold addE; rw [if_pos (.inr h)])
  have t1 : ((M : Int) != 64) = true := by simp; omega
  clear h
  go_enter Tryz.func54, Tryz.ntmps54
  go_wp2_with fail
  go_ret2
  exact ⟨by rw [E.out]; rfl, rfl⟩
set_option maxRecDepth 100000 in
theorem add_yes (b1 o1 c1 b2 o2 c2 : Nat) (f g : Nat → Int) (w : World) (h1 : Ints w .u8 b1 o1 64 f) (h2 : Ints w .i64 b2 o2 64 g) (bf : ∀ i, i < 64 → 0 ≤ f i ∧ f i ≤ 255) :
    Calls Tryz.prog 54 #[.slice (some ⟨b1, o1, none⟩) 64 c1, .slice (some ⟨b2, o2, none⟩) 64 c2] w fun e w' => ∃ v, e = .returned (.tuple #[v, .int .i64 (addE 64 64 g)]) ∧ Res .u8 w.heap.size w' v (addN 64 64 g) (addF f g) ∧ Below w.heap.size w w' := by
  have H1 := Lib.hid h1
  have H2 := Lib.hid h2
  have BF := Lib.hid bf
  clear h1 h2 bf
  go_enter Tryz.func54, Tryz.ntmps54
  go_wp2_with fail
  go_loopw [18] (fun i wr => ∃ k : Nat, k ≤ 64 ∧ i = .int .i64 k ∧ okR g k ∧ wr = w) (fun i _ => 64 - (intOf i).toNat)
  case atStart => exact ⟨0, by omega, rfl, fun i hi => by omega, rfl⟩
  case round =>
    obtain ⟨k, hk, rfl, hok, hw⟩ := hrel
    obtain rfl := hw.symm
    have OK := Lib.hid hok
    clear hok hw
    by_cases hkn : k < 64
    · have e2 := H2.out k hkn
      have b1 : (0 : Int) ≤ (k : Int) ∧ (k : Int) < 64 := by omega
      by_cases l1 : g k < -1048576
      · have E : Hid (addE 64 64 g = 3) := Lib.hid (by unfold addE; rw [if_neg (by omega), if_neg (fun h => by have := h k hkn; omega)])
        go_wp2_with fail
        go_ret2
        exact ⟨_, by rw [E.out]; rfl, .inl ⟨by unfold addN; rw [E.out]; rfl, rfl⟩, Below.refl _ _⟩
      · by_cases l2 : 1048576 < g k
        · have E : Hid (addE 64 64 g = 3) := Lib.hid (by unfold addE; rw [if_neg (by omega), if_neg (fun h => by have := h k hkn; omega)])
          go_wp2_with fail
          go_ret2
          exact ⟨_, by rw [E.out]; rfl, .inl ⟨by unfold addN; rw [E.out]; rfl, rfl⟩, Below.refl _ _⟩
        · have OK2 : Hid (okR g (k + 1)) := Lib.hid (fun i hi => by
            by_cases e : i = k
            · subst e; omega
            · exact OK.out i (by omega))
          go_wp2_with fail
          go_roundw
          case rel => exact ⟨k + 1, by omega, by go_num, OK2.out, by trivial⟩
          case measure => simp [intOf]; omega
    · obtain rfl : k = 64 := by omega
      have E : Hid (addE 64 64 g = 0) := Lib.hid (by unfold addE; rw [if_neg (by omega), if_pos OK.out])
      go_wp2_with (go_at_call 97; refine (zip_row b1 o1 c1 b2 o2 c2 64 f g _ (by omega) H1.out H2.out BF.out OK.out).mono ?_; rintro e w1 ⟨v, rfl, hR, hB⟩; have HR := Lib.hid hR; have HB := Lib.hid hB; clear hR hB)
      go_ret2
      exact ⟨_, by rw [E.out]; rfl, by unfold addN; rw [E.out, if_pos rfl]; exact HR.out, HB.out⟩
theorem Add_any (va vb : Value) (N M : Nat) (f g : Nat → Int) (w : World) (h1 : Sl .u8 w va N f) (h2 : Sl .i64 w vb M g) (bf : ∀ i, i < N → 0 ≤ f i ∧ f i ≤ 255) :
    Calls Tryz.prog 54 #[va, vb] w fun e w' => ∃ v, e = .returned (.tuple #[v, .int .i64 (addE N M g)]) ∧ Res .u8 w.heap.size w' v (addN N M g) (addF f g) ∧ Below w.heap.size w w' := by
  obtain ⟨a1, c1, rfl, _, _, d1⟩ := h1
  obtain ⟨a2, c2, rfl, _, _, d2⟩ := h2
  by_cases hN : N = 64
  · by_cases hM : M = 64
    · subst hN hM
      rcases d1 with ⟨h0, _⟩ | ⟨b1, o1, rfl, _, i1⟩
      · omega
      · rcases d2 with ⟨h0, _⟩ | ⟨b2, o2, rfl, _, i2⟩
        · omega
        · exact add_yes _ _ _ _ _ _ _ _ _ i1 i2 bf
    · subst hN
      refine (add_no2 a1 a2 c1 M c2 g w hM).mono ?_
      rintro e w' ⟨rfl, rfl⟩
      exact ⟨_, rfl, .inl ⟨by unfold addN; rw [show addE 64 M g = 2 by unfold addE; rw [if_pos (.inr hM)]]; rfl, rfl⟩, Below.refl _ _⟩
  · refine (add_no1 a1 a2 N c1 M c2 g w hN).mono ?_
    rintro e w' ⟨rfl, rfl⟩
    exact ⟨_, rfl, .inl ⟨by unfold addN; rw [show addE N M g = 2 by unfold addE; rw [if_pos (.inl hN)]]; rfl, rfl⟩, Below.refl _ _⟩
theorem made_sl {w : World} {base N : Nat} {e : TypeId} {k : IntKind} {v : Value} (h : w.ownsRow base e 1 v N (madeCells (Value.int k 0).cells (N * 1)).toList) : Res k base w v N (fun _ => 0) :=
  Res.of_own (by
    have e : (madeCells (Value.int k 0).cells (N * 1)).toList = (List.range N).map fun _ => Value.int k 0 := by
      apply List.ext_getElem
      · simp [madeCells, Value.cells]
      · intro i h1 h2
        simp [madeCells, Value.cells, Nat.mod_one]
    rwa [e] at h)
end Pa
end Go.Proofs.YtbmglemjfodfhaaGreat
