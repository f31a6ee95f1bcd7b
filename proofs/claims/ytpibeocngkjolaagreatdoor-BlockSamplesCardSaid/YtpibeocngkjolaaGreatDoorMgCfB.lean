/- Lists of bytes that statements share: side by side, written over, lent with room behind them. | KeptBytes: what was lent stands, and the room behind it. | Bits of bytes: one bit; a number of some bits; the program's and the document's. | A number of some bits. | A number of some bits. | LentBytes of any row of bytes. -/
import Derived.Test.YtpibeocngkjolaaGreatDoorMgArrB
import Derived.Test.YtpibeocngkjolaaGreatDoorMgQuantBl
import Derived.BigRegion
import Derived.Deep.AppendLies
import Derived.Deep.RegionHeld3
import Derived.Laws.BytesString
set_option linter.unusedVariables false
set_option linter.unusedSimpArgs false

namespace Go.Proofs.YtpibeocngkjolaaGreatDoor
open Go.RowKit
set_option linter.unusedSimpArgs false
set_option linter.unusedVariables false

/-- the text of n bytes. -/
def strOf (n : Nat) (f : Nat → Int) : ByteArray := ((List.range n).map f).foldl (fun r x => r.push (UInt8.ofNat x.toNat)) ByteArray.empty
theorem strOf_congr {n : Nat} {f g : Nat → Int} (h : ∀ i, i < n → f i = g i) : strOf n f = strOf n g := by
  unfold strOf
  rw [List.map_congr_left (fun i hi => h i (List.mem_range.1 hi))]
theorem run_str {P : Program} {w : World} {src dst e : TypeId} (hs : P.underlying src = some (.slice e)) (he : P.underlying e = some (.int .u8)) (hd : P.underlying dst = some .string) {b o n : Nat} {f : Nat → Int} (h : Ints w .u8 b o n f) (c : Nat) :
    (convert src dst (.slice (some ⟨b, o, none⟩) n c)).run P w = .ok (.string (strOf n f)) w := by
  rw [run_convert_bytes_string w src dst e _ n c hs he hd]
  refine run_bytesToString w _ n c ((List.range n).map f) ?_
  have hl : (loadCells ⟨b, o, none⟩ (((List.range n).map f).map (Value.int .u8)).length).run P w = .ok (((List.range n).map f).map (Value.int .u8)).toArray w :=
    run_loadCells_list (P := P) w ⟨b, o, none⟩ _ (fun j v hv => by
      have hj : j < n := by
        have := (List.getElem?_eq_some_iff.1 hv).1
        simpa using this
      rw [Addr.add_lit, h j hj]
      simpa [hj] using hv)
  simpa using hl
theorem run_str_nil {P : Program} {w : World} {src dst e : TypeId} (hs : P.underlying src = some (.slice e)) (he : P.underlying e = some (.int .u8)) (hd : P.underlying dst = some .string) (a : Option Addr) (c : Nat) (f : Nat → Int) :
    (convert src dst (.slice a 0 c)).run P w = .ok (.string (strOf 0 f)) w := by
  rw [run_convert_bytes_string w src dst e _ 0 c hs he hd]
  cases a with
  | none => simp [Conv.bytesToString, strOf]
  | some a => exact run_bytesToString w a 0 c [] rfl
theorem run_str_sl {P : Program} {w : World} {src dst e : TypeId} (hs : P.underlying src = some (.slice e)) (he : P.underlying e = some (.int .u8)) (hd : P.underlying dst = some .string) {v : Value} {n : Nat} {f : Nat → Int} (h : Sl .u8 w v n f) :
    (convert src dst v).run P w = .ok (.string (strOf n f)) w := by
  obtain ⟨a, c, rfl, _, _, d⟩ := h
  rcases d with ⟨rfl, _⟩ | ⟨b, o, rfl, _, i⟩
  · exact run_str_nil hs he hd a c f
  · exact run_str hs he hd i c

theorem xor_byte (x : Int) : ∃ y : Int, bits BinOp.xor IntKind.u8 x 165 = y := ⟨_, rfl⟩
theorem info_byte : (Tryz.prog.info? 5).map (fun i => (i.zero, i.size, i.bytes)) = some (some (.int .u8 0), 1, 1) := by kernel_rfl
/-- bytes, and the four behind them. -/
def lentF (n : Nat) (f : Nat → Int) (i : Nat) : Int := if i < n then f i else 201 + ((i : Int) - n)
theorem lent_list (n : Nat) (f : Nat → Int) : ((List.range n).map fun i => Value.int .u8 (f i)) ++ [.int .u8 201, .int .u8 202, .int .u8 203, .int .u8 204] = (List.range (n + 4)).map fun i => Value.int .u8 (lentF n f i) := by
  have e : ∀ k, k ≤ n → ((List.range k).map fun i => Value.int .u8 (f i)) = (List.range k).map fun i => Value.int .u8 (lentF n f i) := by
    intro k hk
    apply List.map_congr_left
    intro i hi
    have := List.mem_range.1 hi
    unfold lentF
    rw [if_pos (by omega)]
  rw [e n (Nat.le_refl _)]
  rw [show n + 4 = n + 1 + 1 + 1 + 1 by omega, ← range_snoc, ← range_snoc, ← range_snoc, ← range_snoc]
  have g0 : lentF n f n = 201 := by unfold lentF; rw [if_neg (by omega)]; omega
  have g1 : lentF n f (n + 1) = 202 := by unfold lentF; rw [if_neg (by omega)]; omega
  have g2 : lentF n f (n + 1 + 1) = 203 := by unfold lentF; rw [if_neg (by omega)]; omega
  have g3 : lentF n f (n + 1 + 1 + 1) = 204 := by unfold lentF; rw [if_neg (by omega)]; omega
  rw [g0, g1, g2, g3]
  simp
theorem slice_to (g N c n : Nat) (h : n ≤ c) (w : World) : (Instr.slice 22 (.slice (some ⟨g, 0, none⟩) N c) none (some (.int .i64 (n : Int))) none).run Tryz.prog w = .ok (.slice (some ⟨g, 0, none⟩) n c) w := by
  have ht : Tryz.prog.underlying 22 = some (.slice (Tryz.prog.elem 22)) := by kernel_rfl
  obtain ⟨i0, hi, hz0, hz1, hz2⟩ := info_parts info_byte
  have he : Tryz.prog.elem 22 = 5 := by kernel_rfl
  rw [run_slice_h w 22 _ N c ht .i64 n (by omega) (by omega), he]
  have hs : (sizeOf 5).run Tryz.prog w = .ok 1 w := by simp [sizeOf, typeInfo, hi, hz1]
  rw [hs]
  simp only [Result.andThen, sliced, Int.toNat_natCast, Nat.sub_zero, Nat.zero_mul, Option.map_some]
  have ea : (⟨g, 0, none⟩ : Addr).add 0 = ⟨g, 0, none⟩ := by simp [Addr.add]
  rw [ea]
  simp
/-- what LentBytes comes to. -/
def Lent (w : World) (n : Nat) (f : Nat → Int) (e : Ending) (w' : World) : Prop :=
  ∃ g c, e = .returned (.slice (some ⟨g, 0, none⟩) n c) ∧ w.heap.size ≤ g ∧ g < w'.heap.size ∧ n + 4 ≤ c ∧ c ≤ maxLen ∧ Arr w' .u8 g (n + 4) (lentF n f) ∧ Below w.heap.size w w'

set_option maxRecDepth 100000 in
theorem LentBytes_row (b o c n : Nat) (f : Nat → Int) (w : World) (hn : n ≤ 1000000) (h1 : Ints w .u8 b o n f) :
    Calls Tryz.prog 11 #[.slice (some ⟨b, o, none⟩) n c] w (Lent w n f) := by
  obtain ⟨i0, hi, hz0, hz1, hz2⟩ := info_parts info_byte
  have NW := Lib.hid (news_ints (h1.alloc (.cells #[] 5)))
  have OW := Lib.hid (one_cells .u8 n f)
  clear h1
  have LL := Lib.hid (lent_list n f)
  go_enter Tryz.func11, Tryz.ntmps11
  go_wp2_with (first
    | (at_builtin; (refine wpList_append_own _ rfl (.tmp 4) (.tmp 5) 22 rfl w.heap.size 5 i0 (.int .u8 0) 1 1 Tryz.underlying22 hi hz0 hz1 hz2 rfl (by decide) _ _ _ rfl (World.ownsRow_made w #[] 0 (Nat.le_refl _) (Nat.zero_le _) rfl) ⟨b, o, none⟩ n c ((List.range n).map fun i => Value.int .u8 (f i)) rfl (by simp) NW.out OW.out (by unfold maxLen; omega) (by omega) (by simp) ?_); intro v' w1 hown hgr hnil; simp only [Nat.zero_add, List.nil_append] at hown; have hB1 : Below w.heap.size w w1 := ((Below.refl w.heap.size w).alloc (Nat.le_refl _) (.cells #[] 5)).grown hgr (by simp) (fun k hk => by cases hk; exact Nat.le_refl _); have OWN := Lib.hid hown; have HB1 := Lib.hid hB1; have sz := hB1.size; clear hown hgr hnil hB1)
    | (at_builtin; (refine wpList_append_own _ rfl (.tmp 7) (.tmp 8) 22 rfl w.heap.size 5 i0 (.int .u8 0) 1 1 Tryz.underlying22 hi hz0 hz1 hz2 rfl (by decide) _ _ _ rfl (OWN.out.alloc _) ⟨w1.heap.size, 0, none⟩ 4 4 [.int .u8 201, .int .u8 202, .int .u8 203, .int .u8 204] rfl rfl (World.news_of_block (cs := #[.int .u8 201, .int .u8 202, .int .u8 203, .int .u8 204]) (t := 5) (fr := (0, 0)) (heap_alloc_new w1 _)) (by simp [Value.oneCell']) (by unfold maxLen; omega) (by omega) (by simp; omega) ?_); intro v2 w2 hown2 hgr2 hnil2; rw [LL.out] at hown2; have hB2 : Below w.heap.size w w2 := (HB1.out.alloc sz (.cells #[.int .u8 201, .int .u8 202, .int .u8 203, .int .u8 204] 5)).grown hgr2 (by simp; omega) (fun q hq => (OWN.out.lt q hq).1); obtain ⟨g, c', hv, h1, h2, h3, h4, h5⟩ := Arr.of_own hown2 (by omega); subst hv; have HA := Lib.hid h5; have HB := Lib.hid hB2; have nb := fun W => slice_to g (n + 4) c' n (by omega) W; clear hown2 hgr2 hnil2 h5 hB2))
  go_ret
  exact ⟨g, c', rfl, h1, h2, h3, h4, HA.out, HB.out⟩

set_option maxRecDepth 100000 in
theorem LentBytes_nil (f : Nat → Int) (w : World) :
    Calls Tryz.prog 11 #[.slice none 0 0] w (Lent w 0 f) := by
  obtain ⟨i0, hi, hz0, hz1, hz2⟩ := info_parts info_byte
  have LL := Lib.hid (lent_list 0 f)
  have OWN := Lib.hid (World.ownsRow_made (base := w.heap.size) (e := 5) (size := 1) w #[] 0 (Nat.le_refl _) (Nat.zero_le _) rfl)
  go_enter Tryz.func11, Tryz.ntmps11
  go_wp2_with (at_builtin; (refine wpList_append_own _ rfl (.tmp 7) (.tmp 8) 22 rfl w.heap.size 5 i0 (.int .u8 0) 1 1 Tryz.underlying22 hi hz0 hz1 hz2 rfl (by decide) _ _ _ rfl (OWN.out.alloc _) ⟨w.heap.size + 1, 0, none⟩ 4 4 [.int .u8 201, .int .u8 202, .int .u8 203, .int .u8 204] rfl rfl (World.news_of_block (cs := #[.int .u8 201, .int .u8 202, .int .u8 203, .int .u8 204]) (t := 5) (fr := (0, 0)) (heap_alloc2_new w _ _)) (by simp [Value.oneCell']) (by unfold maxLen; omega) (by omega) (by simp; omega) ?_); intro v2 w2 hown2 hgr2 hnil2; rw [List.nil_append] at hown2; have LL' : [Value.int .u8 201, .int .u8 202, .int .u8 203, .int .u8 204] = (List.range (0 + 4)).map fun i => Value.int .u8 (lentF 0 f i) := LL.out; rw [LL'] at hown2; have hB2 : Below w.heap.size w w2 := (((Below.refl w.heap.size w).alloc (Nat.le_refl _) (.cells #[] 5)).alloc (by simp) (.cells #[.int .u8 201, .int .u8 202, .int .u8 203, .int .u8 204] 5)).grown hgr2 (by simp; omega) (fun q hq => (OWN.out.lt q hq).1); obtain ⟨g, c', hv, h1, h2, h3, h4, h5⟩ := Arr.of_own hown2 (by omega); subst hv; have HA := Lib.hid h5; have HB := Lib.hid hB2; have nb := fun W => slice_to g 4 c' 0 (by omega) W; clear hown2 hgr2 hnil2 h5 hB2 LL')
  go_ret
  exact ⟨g, c', rfl, h1, h2, h3, h4, HA.out, HB.out⟩
end Go.Proofs.YtpibeocngkjolaaGreatDoor

namespace Go.Proofs.YtpibeocngkjolaaGreatDoor
open Go.RowKit
set_option linter.unusedSimpArgs false
set_option linter.unusedVariables false

theorem slice_mid (g N c l h : Nat) (hl : l < h) (hh : h ≤ c) (w : World) : (Instr.slice 22 (.slice (some ⟨g, 0, none⟩) N c) (some (.int .i64 (l : Int))) (some (.int .i64 (h : Int))) none).run Tryz.prog w = .ok (.slice (some ⟨g, l, none⟩) (h - l) (c - l)) w := by
  have ht : Tryz.prog.underlying 22 = some (.slice (Tryz.prog.elem 22)) := by kernel_rfl
  obtain ⟨i0, hi, hz0, hz1, hz2⟩ := info_parts info_byte
  have he : Tryz.prog.elem 22 = 5 := by kernel_rfl
  rw [run_slice_lh w 22 _ N c ht .i64 .i64 l h (by omega) (by omega) (by omega), he]
  have hs : (sizeOf 5).run Tryz.prog w = .ok 1 w := by simp [sizeOf, typeInfo, hi, hz1]
  rw [hs]
  have h0 : ¬ c = l := by omega
  simp only [Result.andThen, sliced, Int.toNat_natCast, Nat.mul_one, Option.map_some]
  have ea : (⟨g, 0, none⟩ : Addr).add l = ⟨g, l, none⟩ := by
    simp [Addr.add]
    try (intro h; exact h.symm)
  simp only [ea]
  simp
  intro h
  exact absurd h h0

theorem four_str (n : Nat) (f : Nat → Int) : strOf 4 (fun i => lentF n f (n + i)) = strOf 4 (fun i => [(201 : Int), 202, 203, 204].getD i 0) := by
  refine strOf_congr fun i hi => ?_
  unfold lentF
  rw [if_neg (by omega)]
  rcases (by omega : i = 0 ∨ i = 1 ∨ i = 2 ∨ i = 3) with rfl | rfl | rfl | rfl <;> simp <;> omega
theorem four_new (w : World) : (convert 22 9 (.slice (some ⟨w.heap.size, 0, none⟩) 4 4)).run Tryz.prog (w.alloc (.cells #[.int .u8 201, .int .u8 202, .int .u8 203, .int .u8 204] 5)).drew = .ok (.string (strOf 4 (fun i => [(201 : Int), 202, 203, 204].getD i 0))) (w.alloc (.cells #[.int .u8 201, .int .u8 202, .int .u8 203, .int .u8 204] 5)).drew := by
  refine run_str Tryz.underlying22 Tryz.underlying5 Tryz.underlying9 ?_ 4
  refine ((Arr.new w .u8 _ _ 4 _ ?_).drew).ints
  intro i hi
  rcases (by omega : i = 0 ∨ i = 1 ∨ i = 2 ∨ i = 3) with rfl | rfl | rfl | rfl <;> rfl

set_option maxRecDepth 100000 in
theorem KeptBytes_row (g c n : Nat) (a2 : Option Addr) (c2 : Nat) (f : Nat → Int) (w : World) (hn : n ≤ 1000000) (hc : n + 4 ≤ c) (_hm : c ≤ maxLen) (hA : Arr w .u8 g (n + 4) (lentF n f)) (h2 : Sl .u8 w (.slice a2 n c2) n f) :
    Calls Tryz.prog 16 #[.slice (some ⟨g, 0, none⟩) n c, .slice a2 n c2] w fun e w' => e = .returned (.bool true) ∧ Below w.heap.size w w' := by
  have hI := hA.ints
  have hg := hI.lt (by omega)
  have E1 : ∀ w' : World, Hid (Below w.heap.size w w') → (convert 22 9 (.slice (some ⟨g, 0, none⟩) n c)).run Tryz.prog w' = .ok (.string (strOf n f)) w' := by
    intro w' hB
    refine run_str Tryz.underlying22 Tryz.underlying5 Tryz.underlying9 ?_ c
    intro i hi
    have h := hI.below hB.out hg i (by omega)
    rw [h]
    unfold lentF
    rw [if_pos hi]
  have E2 : ∀ w' : World, Hid (Below w.heap.size w w') → (convert 22 9 (.slice a2 n c2)).run Tryz.prog w' = .ok (.string (strOf n f)) w' := by
    intro w' hB
    exact run_str_sl Tryz.underlying22 Tryz.underlying5 Tryz.underlying9 (h2.below hB.out)
  have E3 : ∀ w' : World, Hid (Below w.heap.size w w') → (convert 22 9 (.slice (some ⟨g, n, none⟩) 4 (c - n))).run Tryz.prog w' = .ok (.string (strOf 4 (fun i => [(201 : Int), 202, 203, 204].getD i 0))) w' := by
    intro w' hB

    rw [← four_str n f]
    refine run_str Tryz.underlying22 Tryz.underlying5 Tryz.underlying9 ?_ _
    intro i hi
    have h := hI.below hB.out hg (n + i) (by omega)
    rw [Nat.zero_add] at h
    exact h
  have S1 := fun W => slice_to g n c c (Nat.le_refl _) W
  have S2 := fun W => slice_mid g c c n (n + 4) (by omega) (by omega) W
  have F4 := four_new w
  simp only [List.getD_eq_getElem?_getD] at F4
  have n1 : IntKind.i64.wrap ((n : Int) + 4) = (n : Int) + 4 := IntWalk.i64_in _ (by omega)
  have n2 : ((n + 4 : Nat) : Int) = (n : Int) + 4 := by omega
  rw [n2] at S2
  have d1 : decide ((n : Int) + 4 ≤ (c : Int)) = true := by simp; omega
  have B1 : Hid (Below w.heap.size w w.drew) := Lib.hid (Below.refl _ _).drew
  have B2 : Hid (Below w.heap.size w (w.alloc (.cells #[.int .u8 201, .int .u8 202, .int .u8 203, .int .u8 204] 5)).drew) := Lib.hid ((Below.refl w.heap.size w).alloc (Nat.le_refl _) _).drew
  clear hI hA h2 hg
  have c1 := E1 _ B1
  have c2 := E2 _ B1
  have c3 := E3 _ B1
  have c4 := E1 _ B2
  have c5 := E2 _ B2
  have c6 := E3 _ B2
  clear E1 E2 E3
  go_enter Tryz.func16, Tryz.ntmps16
  go_wp2_with fail
  go_region
  go_wp2
  go_ret
  exact ⟨rfl, B2.out⟩
end Go.Proofs.YtpibeocngkjolaaGreatDoor

namespace Go.Proofs.YtpibeocngkjolaaGreatDoor
open Go.RowKit
set_option linter.unusedSimpArgs false
set_option linter.unusedVariables false
namespace Cf

theorem ofInt_64 (a : Nat) (h : a < 18446744073709551616) : (BitVec.ofInt 64 (a : Int)).toNat = a := by
  rw [BitVec.toNat_ofInt]
  omega
theorem wrap_small (n : Nat) (h : n < 9223372036854775808) : IntKind.i64.wrap (n : Int) = (n : Int) := IntWalk.i64_in _ (by omega)
theorem i64_and_nat (a b : Nat) (ha : a < 9223372036854775808) (hb : b < 9223372036854775808) : bits .and .i64 (a : Int) (b : Int) = ((a &&& b : Nat) : Int) := by
  have hx : a &&& b < 2 ^ 63 := Nat.and_lt_two_pow _ (by omega)
  show IntKind.i64.wrap ((BitVec.ofInt 64 (a : Int) &&& BitVec.ofInt 64 (b : Int)).toNat : Int) = _
  rw [BitVec.toNat_and, ofInt_64 a (by omega), ofInt_64 b (by omega)]
  exact wrap_small _ (by omega)
theorem i64_or_nat (a b : Nat) (ha : a < 9223372036854775808) (hb : b < 9223372036854775808) : bits .or .i64 (a : Int) (b : Int) = ((a ||| b : Nat) : Int) := by
  have hx : a ||| b < 2 ^ 63 := Nat.or_lt_two_pow (by omega) (by omega)
  show IntKind.i64.wrap ((BitVec.ofInt 64 (a : Int) ||| BitVec.ofInt 64 (b : Int)).toNat : Int) = _
  rw [BitVec.toNat_or, ofInt_64 a (by omega), ofInt_64 b (by omega)]
  exact wrap_small _ (by omega)
theorem i64_and_1 (y : Int) (h0 : 0 ≤ y) (h1 : y < 9223372036854775808) : bits .and .i64 y 1 = y % 2 := by
  have h := i64_and_nat y.toNat 1 (by omega) (by omega)
  rw [show ((1 : Nat) : Int) = 1 from rfl, Int.toNat_of_nonneg h0] at h
  rw [h, show (1 : Nat) = 2 ^ 1 - 1 from rfl, Nat.and_two_pow_sub_one_eq_mod]
  omega
theorem i64_or_low (x y : Int) (h0 : 0 ≤ x) (h1 : x < 4611686018427387904) (hy : y = 0 ∨ y = 1) : bits .or .i64 (2 * x) y = 2 * x + y := by
  have h := i64_or_nat (2 * x.toNat) y.toNat (by omega) (by omega)
  have e1 : ((2 * x.toNat : Nat) : Int) = 2 * x := by omega
  have e2 : ((y.toNat : Nat) : Int) = y := by omega
  rw [e1, e2] at h
  rw [h]
  have : 2 * x.toNat ||| y.toNat = 2 * x.toNat + y.toNat := by
    have := Nat.two_pow_add_eq_or_of_lt (i := 1) (b := y.toNat) (by omega) x.toNat
    simpa using this.symm
  rw [this]
  omega
theorem w64 {x : Int} (h : -9223372036854775808 ≤ x ∧ x < 9223372036854775808) : wrap64 x = x := by unfold wrap64; omega
/-- bit i of bytes. -/
def bitI (f : Nat → Int) (i : Nat) : Int := (f (i / 8) / 2 ^ (7 - i % 8)) % 2
theorem bitI_01 (f : Nat → Int) (i : Nat) : bitI f i = 0 ∨ bitI f i = 1 := by unfold bitI; omega
/-- the number that k bits are. -/
def rdV (f : Nat → Int) (at_ : Nat) : Nat → Int
  | 0 => 0
  | k + 1 => 2 * rdV f at_ k + bitI f (at_ + k)
theorem rdV_bd (f : Nat → Int) (at_ : Nat) : ∀ k, 0 ≤ rdV f at_ k ∧ rdV f at_ k < 2 ^ k
  | 0 => by simp [rdV]
  | k + 1 => by
    have ih := rdV_bd f at_ k
    have := bitI_01 f (at_ + k)
    rw [rdV, Int.pow_succ]
    omega
theorem rdV_32 (f : Nat → Int) (at_ k : Nat) (h : k ≤ 32) : 0 ≤ rdV f at_ k ∧ rdV f at_ k < 4294967296 := by
  have := rdV_bd f at_ k
  have h2 : (2 : Int) ^ k ≤ 2 ^ 32 := by exact_mod_cast Nat.pow_le_pow_right (by decide) h
  omega
def rdE (N : Nat) (at_ n : Int) : Int := if at_ < 0 ∨ n < 0 ∨ 32 < n then 3 else if 8 * (N : Int) < at_ ∨ 8 * (N : Int) - at_ < n then 5 else 0
def rdX (f : Nat → Int) (N : Nat) (at_ n : Int) : Int := if rdE N at_ n = 0 then rdV f at_.toNat n.toNat else 0
section
set_option maxRecDepth 100000
set_option maxHeartbeats 4000000
set_option linter.unusedVariables false
theorem bit_any (v : Value) (N : Nat) (f : Nat → Int) (i : Nat) (w : World) (hN : N ≤ 1000000) (hs : Sl .u8 w v N f) (hb : ∀ j, j < N → 0 ≤ f j ∧ f j ≤ 255) (hi : i < 8 * N) :
    Calls Tryz.prog 61 #[v, .int .i64 i] w fun e w' => e = .returned (.int .i64 (bitI f i)) ∧ w = w' := by
  obtain ⟨a, c, rfl, h1, h2, h3⟩ := hs
  rcases h3 with ⟨h, _⟩ | ⟨b, o, rfl, hbl, hI⟩
  · omega
  have hc := hI (i / 8) (by omega)
  have hv := hb (i / 8) (by omega)
  unfold bitI
  obtain ⟨x, hx⟩ : ∃ x, f (i / 8) = x := ⟨_, rfl⟩
  rw [hx] at hc hv
  rw [hx]
  have hi8 : (i : Int) / 8 < (N : Int) := by omega
  have hi0 : (0 : Int) ≤ (i : Int) / 8 := by omega
  have hm : i % 8 < 8 := Nat.mod_lt _ (by decide)
  have ea : bits .and .i64 (i : Int) 7 = ((i % 8 : Nat) : Int) := by
    have h := i64_and_nat i 7 (by omega) (by omega)
    rw [show ((7 : Nat) : Int) = 7 from rfl] at h
    rw [h, show (7 : Nat) = 2 ^ 3 - 1 from rfl, Nat.and_two_pow_sub_one_eq_mod]
  obtain ⟨r, hr⟩ : ∃ r, i % 8 = r := ⟨_, rfl⟩
  rw [hr] at ea hm
  rw [hr]
  have hx0 := hv.1
  have hx1 := hv.2
  clear hI hb hx hi hr hN
  rcases (by omega : r = 0 ∨ r = 1 ∨ r = 2 ∨ r = 3 ∨ r = 4 ∨ r = 5 ∨ r = 6 ∨ r = 7) with rfl | rfl | rfl | rfl | rfl | rfl | rfl | rfl <;> simp only [Int.ofNat_zero, Int.cast_ofNat_Int] at ea <;>
  · go_enter Tryz.func61, Tryz.ntmps61
    go_wp2
    go_ret
    refine ⟨?_, rfl⟩
    show Ending.returned (.int .i64 (bits .and .i64 _ 1)) = _
    rw [i64_and_1 _ (by omega) (by omega)]
    first | rfl | (rw [show (2 : Int) ^ (7 - 7) = 1 from rfl, Int.ediv_one])
theorem rbit_any (v : Value) (N : Nat) (f : Nat → Int) (i : Nat) (w : World) (hN : N ≤ 1000000) (hs : Sl .u8 w v N f) (hb : ∀ j, j < N → 0 ≤ f j ∧ f j ≤ 255) (hi : i < 8 * N) :
    Calls Tryz.prog 65 #[v, .int .i64 i] w fun e w' => e = .returned (.int .i64 (bitI f i)) ∧ w = w' := by
  obtain ⟨a, c, rfl, h1, h2, h3⟩ := hs
  rcases h3 with ⟨h, _⟩ | ⟨b, o, rfl, hbl, hI⟩
  · omega
  have hc := hI (i / 8) (by omega)
  have hv := hb (i / 8) (by omega)
  unfold bitI
  obtain ⟨x, hx⟩ : ∃ x, f (i / 8) = x := ⟨_, rfl⟩
  rw [hx] at hc hv
  rw [hx]
  have hi8 : (i : Int) / 8 < (N : Int) := by omega
  have hi0 : (0 : Int) ≤ (i : Int) / 8 := by omega
  have hm : i % 8 < 8 := Nat.mod_lt _ (by decide)
  have ea : Int.tmod (i : Int) 8 = ((i % 8 : Nat) : Int) := by rw [Int.tmod_eq_emod_of_nonneg (by omega)]; rfl
  have eq : Int.tdiv (i : Int) 8 = (i : Int) / 8 := Int.tdiv_eq_ediv_of_nonneg (by omega)
  obtain ⟨r, hr⟩ : ∃ r, i % 8 = r := ⟨_, rfl⟩
  have er : (i : Int) % 8 = (r : Int) := by omega
  have hw : wrap64 ((i : Int) / 8) = (i : Int) / 8 := w64 (by omega)
  rw [hr] at ea hm
  rw [hr]
  have hx0 := hv.1
  have hx1 := hv.2
  clear hI hb hx hi hr hN
  rcases (by omega : r = 0 ∨ r = 1 ∨ r = 2 ∨ r = 3 ∨ r = 4 ∨ r = 5 ∨ r = 6 ∨ r = 7) with rfl | rfl | rfl | rfl | rfl | rfl | rfl | rfl <;> simp only [Int.ofNat_zero, Int.cast_ofNat_Int] at ea er <;>
  · go_enter Tryz.func65, Tryz.ntmps65
    go_wp2
    go_ret
    refine ⟨?_, rfl⟩
    first | rfl | (rw [show (2 : Int) ^ (7 - 7) = 1 from rfl, Int.ediv_one]; rfl) | (trace_state; sorry)
theorem Count_any (a : Option Addr) (N c : Nat) (w : World) (hN : N ≤ 1000000) : Calls Tryz.prog 35 #[.slice a N c] w fun e w' => e = .returned (.int .i64 (8 * (N : Int))) ∧ w = w' := by
  have hw : wrap64 (8 * (N : Int)) = 8 * (N : Int) := w64 (by omega)
  go_enter Tryz.func35, Tryz.ntmps35
  go_wp2
  go_ret
  exact ⟨rfl, rfl⟩
theorem rCount_any (a : Option Addr) (N c : Nat) (w : World) (hN : N ≤ 1000000) : Calls Tryz.prog 64 #[.slice a N c] w fun e w' => e = .returned (.int .i64 (8 * (N : Int))) ∧ w = w' := by
  have hw : wrap64 (8 * (N : Int)) = 8 * (N : Int) := w64 (by omega)
  go_enter Tryz.func64, Tryz.ntmps64
  go_wp2
  go_ret
  exact ⟨rfl, rfl⟩
end
end Cf
end Go.Proofs.YtpibeocngkjolaaGreatDoor

namespace Go.Proofs.YtpibeocngkjolaaGreatDoor
open Go.RowKit
set_option linter.unusedSimpArgs false
set_option linter.unusedVariables false
namespace Cf
section
set_option maxRecDepth 100000
set_option maxHeartbeats 4000000
set_option linter.unusedVariables false
theorem Read_ok (v : Value) (N : Nat) (f : Nat → Int) (p n : Nat) (w : World) (hN : N ≤ 1000000) (hs : Sl .u8 w v N f) (hb : ∀ j, j < N → 0 ≤ f j ∧ f j ≤ 255) (hn : n ≤ 32) (hp : p + n ≤ 8 * N) :
    Calls Tryz.prog 36 #[v, .int .i64 p, .int .i64 n] w fun e w' => e = .returned (.tuple #[.int .i64 (rdV f p n), .int .i64 0]) ∧ w = w' := by
  have HBT := Lib.hid (fun i V h h2 => bit_any v N f i V hN h hb h2)
  have HS := Lib.hid hs
  obtain ⟨a, c, rfl, _, _, _⟩ := hs
  have HC := Lib.hid (fun V => Count_any a N c V hN)
  have p0 : ¬ (p : Int) < 0 := by omega
  have n0 : ¬ (n : Int) < 0 := by omega
  have n1 : ¬ (32 : Int) < (n : Int) := by omega
  have q1 : ¬ 8 * (N : Int) < (p : Int) := by omega
  have q2 : wrap64 (8 * (N : Int) - (p : Int)) = 8 * (N : Int) - (p : Int) := w64 (by omega)
  have q3 : ¬ 8 * (N : Int) - (p : Int) < (n : Int) := by omega
  clear hb
  go_enter Tryz.func36, Tryz.ntmps36
  go_wp2_with (go_at_call 35; refine (HC.out _).mono ?_; rintro e w1 ⟨rfl, rfl⟩)
  go_loopw [8, 1, 2] (fun x i m wr => ∃ k : Nat, k ≤ n ∧ x = .int .i64 (rdV f p k) ∧ i = .int .i64 ((p : Int) + k) ∧ m = .int .i64 ((n : Int) - k) ∧ wr = w) (fun _ _ m _ => (intOf m).toNat)
  case atStart => exact ⟨0, Nat.zero_le _, rfl, by simp, by simp, rfl⟩
  case round =>
    obtain ⟨k, hk, rfl, rfl, rfl, rfl⟩ := hrel
    by_cases hkn : k < n
    · have t0 : (0 : Int) < (n : Int) - (k : Int) := by omega
      obtain ⟨x, hx⟩ : ∃ x, rdV f p k = x := ⟨_, rfl⟩
      have hv := rdV_32 f p k (by omega)
      rw [hx] at hv
      rw [hx]
      obtain ⟨y, hy⟩ : ∃ y, bitI f (p + k) = y := ⟨_, rfl⟩
      have h01 := bitI_01 f (p + k)
      rw [hy] at h01
      have HCL := HBT.out (p + k) wr HS.out (by omega)
      rw [hy, Int.natCast_add] at HCL
      have eo : bits .or .i64 (x * 2) y = 2 * x + y := by rw [Int.mul_comm]; exact i64_or_low x y (by omega) (by omega) h01
      have eo2 : Hid (rdV f p (k + 1) = 2 * x + y) := Lib.hid (by rw [rdV, hx, hy])
      have HCL' := Lib.hid HCL
      have ew2 : wrap64 (x * 2) = x * 2 := w64 (by omega)
      have ep := Lib.hid (show wrap64 ((p : Int) + (k : Int) + 1) = (p : Int) + ((k + 1 : Nat) : Int) from by rw [w64 (by omega)]; push_cast; omega)
      have em := Lib.hid (show wrap64 ((n : Int) - (k : Int) - 1) = (n : Int) - ((k + 1 : Nat) : Int) from by rw [w64 (by omega)]; push_cast; omega)
      have em2 := Lib.hid (show (n : Int) - (k : Int) - 1 = (n : Int) - ((k + 1 : Nat) : Int) from by push_cast; omega)
      clear hx hy HCL h01
      go_wp2_with (go_at_call 61; refine HCL'.out.mono ?_; rintro e w1 ⟨rfl, rfl⟩)
      go_roundw
      case rel => exact ⟨k + 1, by omega, by rw [eo2.out], by first | rw [ep.out] | go_num, by first | rw [em.out] | rw [em2.out] | go_num, trivial⟩
      case measure => simp [intOf]; omega
    · have t0 : ¬ (0 : Int) < (n : Int) - (k : Int) := by omega
      obtain rfl : k = n := by omega
      clear hkn
      go_wp2_with fail
      go_ret2
      exact ⟨rfl, rfl⟩
end
end Cf
end Go.Proofs.YtpibeocngkjolaaGreatDoor

namespace Go.Proofs.YtpibeocngkjolaaGreatDoor
open Go.RowKit
set_option linter.unusedSimpArgs false
set_option linter.unusedVariables false
namespace Cf
section
set_option maxRecDepth 100000
set_option maxHeartbeats 4000000
set_option linter.unusedVariables false
theorem rRead_ok (v : Value) (N : Nat) (f : Nat → Int) (p n : Nat) (w : World) (hN : N ≤ 1000000) (hs : Sl .u8 w v N f) (hb : ∀ j, j < N → 0 ≤ f j ∧ f j ≤ 255) (hn : n ≤ 32) (hp : p + n ≤ 8 * N) :
    Calls Tryz.prog 39 #[v, .int .i64 p, .int .i64 n] w fun e w' => e = .returned (.tuple #[.int .i64 (rdV f p n), .int .i64 0]) ∧ w = w' := by
  have HBT := Lib.hid (fun i V h h2 => rbit_any v N f i V hN h hb h2)
  have HS := Lib.hid hs
  obtain ⟨a, c, rfl, _, _, _⟩ := hs
  have HC := Lib.hid (fun V => rCount_any a N c V hN)
  have p0 : ¬ (p : Int) < 0 := by omega
  have n0 : ¬ (n : Int) < 0 := by omega
  have n1 : ¬ (32 : Int) < (n : Int) := by omega
  have q1 : ¬ 8 * (N : Int) < (p : Int) := by omega
  have q2 : wrap64 (8 * (N : Int) - (p : Int)) = 8 * (N : Int) - (p : Int) := w64 (by omega)
  have q3 : ¬ 8 * (N : Int) - (p : Int) < (n : Int) := by omega
  clear hb
  go_enter Tryz.func39, Tryz.ntmps39
  go_wp2_with (go_at_call 64; refine (HC.out _).mono ?_; rintro e w1 ⟨rfl, rfl⟩)
  go_loopw [8, 9] (fun x i wr => ∃ k : Nat, k ≤ n ∧ x = .int .i64 (rdV f p k) ∧ i = .int .i64 k ∧ wr = w) (fun _ i _ => n - (intOf i).toNat)
  case atStart => exact ⟨0, Nat.zero_le _, rfl, rfl, rfl⟩
  case round =>
    obtain ⟨k, hk, rfl, rfl, rfl⟩ := hrel
    by_cases hkn : k < n
    · have t0 : (k : Int) < (n : Int) := by omega
      obtain ⟨x, hx⟩ : ∃ x, rdV f p k = x := ⟨_, rfl⟩
      have hv := rdV_32 f p k (by omega)
      rw [hx] at hv
      rw [hx]
      obtain ⟨y, hy⟩ : ∃ y, bitI f (p + k) = y := ⟨_, rfl⟩
      have h01 := bitI_01 f (p + k)
      rw [hy] at h01
      have HCL := HBT.out (p + k) wr HS.out (by omega)
      rw [hy, Int.natCast_add] at HCL
      have eo2 : Hid (rdV f p (k + 1) = 2 * x + y) := Lib.hid (by rw [rdV, hx, hy])
      have HCL' := Lib.hid HCL
      have ew : wrap64 (2 * x) = 2 * x := w64 (by omega)
      have ey := Lib.hid (show wrap64 (2 * x + y) = 2 * x + y from w64 (by omega))
      have ep : wrap64 ((p : Int) + (k : Int)) = (p : Int) + (k : Int) := w64 (by omega)
      clear hx hy HCL h01 hv
      go_wp2_with (go_at_call 65; refine HCL'.out.mono ?_; rintro e w1 ⟨rfl, rfl⟩)
      go_roundw
      case rel => exact ⟨k + 1, by omega, by rw [eo2.out]; first | rfl | rw [ey.out], by go_num, trivial⟩
      case measure => simp [intOf]; omega
    · have t0 : ¬ (k : Int) < (n : Int) := by omega
      obtain rfl : k = n := by omega
      clear hkn
      go_wp2_with fail
      go_ret2
      exact ⟨rfl, rfl⟩
end
end Cf
end Go.Proofs.YtpibeocngkjolaaGreatDoor

namespace Go.Proofs.YtpibeocngkjolaaGreatDoor
open Go.RowKit
set_option linter.unusedSimpArgs false
set_option linter.unusedVariables false

set_option maxRecDepth 100000 in
theorem LentBytes_empty (a : Addr) (c : Nat) (f : Nat → Int) (w : World) :
    Calls Tryz.prog 11 #[.slice (some a) 0 c] w (Lent w 0 f) := by
  obtain ⟨i0, hi, hz0, hz1, hz2⟩ := info_parts info_byte
  have LL := Lib.hid (lent_list 0 f)
  go_enter Tryz.func11, Tryz.ntmps11
  go_wp2_with (first
    | (at_builtin; (refine wpList_append_own _ rfl (.tmp 4) (.tmp 5) 22 rfl w.heap.size 5 i0 (.int .u8 0) 1 1 Tryz.underlying22 hi hz0 hz1 hz2 rfl (by decide) _ _ _ rfl (World.ownsRow_made w #[] 0 (Nat.le_refl _) (Nat.zero_le _) rfl) a 0 c [] rfl (by simp) (by simp) (by simp) (by unfold maxLen; omega) (by omega) (by simp) ?_); intro v' w1 hown hgr hnil; simp only [Nat.zero_add, List.nil_append] at hown; have hB1 : Below w.heap.size w w1 := ((Below.refl w.heap.size w).alloc (Nat.le_refl _) (.cells #[] 5)).grown hgr (by simp) (fun k hk => by cases hk; exact Nat.le_refl _); have OWN := Lib.hid hown; have HB1 := Lib.hid hB1; have sz := hB1.size; clear hown hgr hnil hB1)
    | (at_builtin; (refine wpList_append_own _ rfl (.tmp 7) (.tmp 8) 22 rfl w.heap.size 5 i0 (.int .u8 0) 1 1 Tryz.underlying22 hi hz0 hz1 hz2 rfl (by decide) _ _ _ rfl (OWN.out.alloc _) ⟨w1.heap.size, 0, none⟩ 4 4 [.int .u8 201, .int .u8 202, .int .u8 203, .int .u8 204] rfl rfl (World.news_of_block (cs := #[.int .u8 201, .int .u8 202, .int .u8 203, .int .u8 204]) (t := 5) (fr := (0, 0)) (heap_alloc_new w1 _)) (by simp [Value.oneCell']) (by unfold maxLen; omega) (by omega) (by simp; omega) ?_); intro v2 w2 hown2 hgr2 hnil2; rw [List.nil_append] at hown2; have LL' : [Value.int .u8 201, .int .u8 202, .int .u8 203, .int .u8 204] = (List.range (0 + 4)).map fun i => Value.int .u8 (lentF 0 f i) := LL.out; rw [LL'] at hown2; have hB2 : Below w.heap.size w w2 := (HB1.out.alloc sz (.cells #[.int .u8 201, .int .u8 202, .int .u8 203, .int .u8 204] 5)).grown hgr2 (by simp; omega) (fun q hq => (OWN.out.lt q hq).1); obtain ⟨g, c', hv, h1, h2, h3, h4, h5⟩ := Arr.of_own hown2 (by omega); subst hv; have HA := Lib.hid h5; have HB := Lib.hid hB2; have nb := fun W => slice_to g 4 c' 0 (by omega) W; clear hown2 hgr2 hnil2 h5 hB2 LL'))
  go_ret
  exact ⟨g, c', rfl, h1, h2, h3, h4, HA.out, HB.out⟩

theorem LentBytes_any (v : Value) (n : Nat) (f : Nat → Int) (w : World) (hn : n ≤ 1000000) (hs : Sl .u8 w v n f) :
    Calls Tryz.prog 11 #[v] w (Lent w n f) := by
  obtain ⟨a, c, rfl, h1, h2, h3⟩ := hs
  rcases h3 with ⟨rfl, h5⟩ | ⟨b, o, rfl, _, h4⟩
  · cases a with
    | none =>
      obtain rfl : c = 0 := h5 rfl
      exact LentBytes_nil f w
    | some a => exact LentBytes_empty a c f w
  · exact LentBytes_row b o c n f w hn h4
theorem lentF_lt {n : Nat} {f : Nat → Int} (i : Nat) (h : i < n) : lentF n f i = f i := by unfold lentF; rw [if_pos h]
theorem Lent.sl {w : World} {g c n : Nat} {f : Nat → Int} (h2 : g < w.heap.size) (h3 : n + 4 ≤ c) (h4 : c ≤ maxLen) (h : Arr w .u8 g (n + 4) (lentF n f)) : Sl .u8 w (.slice (some ⟨g, 0, none⟩) n c) n f :=
  ⟨_, c, rfl, by omega, h4, .inr ⟨g, 0, rfl, h2, fun i hi => by rw [h.ints i (by omega), lentF_lt i hi]⟩⟩
theorem byte_bd {w : World} {a : Option Addr} {len cap : Nat} {zs : List Int} (h : IsRow .u8 w a len cap zs) (i : Nat) : 0 ≤ zs.getD i 0 ∧ zs.getD i 0 ≤ 255 := by
  rw [List.getD_eq_getElem?_getD]
  rcases h with ⟨rfl, rfl, rfl, rfl⟩ | ⟨_, _, _, _, _, _, hw⟩
  · simp
  · by_cases hi : i < zs.length
    · rw [List.getElem?_eq_getElem hi]
      have := hw _ (List.getElem_mem hi)
      have e1 : IntKind.u8.min = 0 := rfl
      have e2 : IntKind.u8.max = 255 := rfl
      simp only [Lit.wf, e1, e2, Bool.and_eq_true, decide_eq_true_eq] at this
      simpa using this
    · rw [List.getElem?_eq_none (by omega)]; simp
end Go.Proofs.YtpibeocngkjolaaGreatDoor
