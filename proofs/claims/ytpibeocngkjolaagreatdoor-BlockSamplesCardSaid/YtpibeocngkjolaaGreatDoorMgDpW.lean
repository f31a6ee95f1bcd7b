/- coeff.same, coeff.seen. | strings.Builder: WriteString at this program. -/
import Derived.Test.YtpibeocngkjolaaGreatDoorMgCfB
import Derived.Test.YtpibeocngkjolaaGreatDoorMgCfW
import Derived.Test.YtpibeocngkjolaaGreatDoorMgChP
import Derived.BigQuiet
import Derived.Deep.DeepCutAuto
import Derived.Deep.RegionWith
import Derived.Laws.Strings3
import Derived.Lib.Strings
import Derived.Test.YtpibeocngkjolaaGreatDoorShelf
set_option linter.unusedVariables false
set_option linter.unusedSimpArgs false

namespace Go.Proofs.YtpibeocngkjolaaGreatDoor
open Go.RowKit
set_option linter.unusedSimpArgs false
set_option linter.unusedVariables false
namespace Cf
section
set_option maxRecDepth 100000
set_option maxHeartbeats 4000000
set_option linter.unusedVariables false
theorem ba_extract (x : List UInt8) (i j : Nat) : (⟨x.toArray⟩ : ByteArray).extract i j = ⟨((x.take j).drop i).toArray⟩ := by
  apply ByteArray.ext
  simp [List.drop_take]
theorem ba_size (x : List UInt8) : (⟨x.toArray⟩ : ByteArray).size = x.length := rfl
theorem ba_eq (x y : List UInt8) : ((⟨x.toArray⟩ : ByteArray) = ⟨y.toArray⟩) ↔ x = y := by
  constructor
  · intro h
    have := congrArg (fun b => b.data.toList) h
    simpa using this
  · rintro rfl; rfl
/-- are two texts alike as far as both go? -/
def sameB (x y : List UInt8) : Bool := x.take (min x.length y.length) == y.take (min x.length y.length)
theorem same_any (x y : List UInt8) (w : World) : Calls Tryz.prog 86 #[sv x, sv y] w fun e w' => e = .returned (.bool (sameB x y)) ∧ Below w.heap.size w w' := by
  unfold sv sameB
  have hx := ba_size x
  have hy := ba_size y
  have ex : ∀ m, (⟨x.toArray⟩ : ByteArray).extract 0 m = ⟨(x.take m).toArray⟩ := fun m => by rw [ba_extract, List.drop_zero]
  have ey : ∀ m, (⟨y.toArray⟩ : ByteArray).extract 0 m = ⟨(y.take m).toArray⟩ := fun m => by rw [ba_extract, List.drop_zero]
  have EX := Lib.hid ex
  have EY := Lib.hid ey
  obtain ⟨N, hN⟩ : ∃ N, x.length = N := ⟨_, rfl⟩
  obtain ⟨M, hM⟩ : ∃ N, y.length = N := ⟨_, rfl⟩
  obtain ⟨sx, hsx⟩ : ∃ s : ByteArray, (⟨x.toArray⟩ : ByteArray) = s := ⟨_, rfl⟩
  obtain ⟨sy, hsy⟩ : ∃ s : ByteArray, (⟨y.toArray⟩ : ByteArray) = s := ⟨_, rfl⟩
  rw [hsx, hN] at hx
  rw [hsy, hM] at hy
  rw [hsx] at EX
  rw [hsy] at EY
  rw [hsx, hsy, hN, hM]
  have hmn : min (N : Int) (M : Int) = ((min N M : Nat) : Int) := by omega
  obtain ⟨m, hm⟩ : ∃ m, min N M = m := ⟨_, rfl⟩
  have hm1 : m ≤ N := by omega
  have hm2 : m ≤ M := by omega
  rw [hm] at hmn ⊢
  have b1 : (m : Int) ≤ (N : Int) := by omega
  have b2 : (m : Int) ≤ (M : Int) := by omega
  clear ex ey hsx hsy hN hM hm
  go_enter Tryz.func86, Tryz.ntmps86
  go_wp2
  refine wp_region_past (by kernel_rfl) (by kernel_rfl) ?_
  repeat (go_big_quiet_step (fail))
  refine wpQuiet_nil ?_
  rintro _ ⟨⟨w4, h4⟩, rfl⟩
  go_wp2
  go_ret
  refine ⟨?_, h4⟩
  show Ending.returned (.bool ((sx.extract 0 m).toList == (sy.extract 0 m).toList)) = _
  rw [EX.out, EY.out, ByteArray.toList_mk, ByteArray.toList_mk]
theorem Read_no (v : Value) (N : Nat) (w : World) (hN : N ≤ 1000000) (hv : ∃ a c, v = .slice a N c) :
    Calls Tryz.prog 36 #[v, .int .i64 (8 * (N : Int)), .int .i64 1] w fun e w' => e = .returned (.tuple #[.int .i64 0, .int .i64 5]) ∧ w = w' := by
  obtain ⟨a, c, rfl⟩ := hv
  have HC := Lib.hid (fun V => Count_any a N c V hN)
  have n0 : ¬ 8 * (N : Int) < 0 := by omega
  obtain ⟨Z, hZ⟩ : ∃ z, 8 * (N : Int) = z := ⟨_, rfl⟩
  rw [hZ] at HC n0 ⊢
  clear hZ
  have e1 : Z - Z = 0 := by omega
  go_enter Tryz.func36, Tryz.ntmps36
  go_wp2_with (go_at_call 35; refine (HC.out _).mono ?_; rintro e w1 ⟨rfl, rfl⟩)
  go_ret2
  exact ⟨rfl, rfl⟩
def seenL (f : Nat → Int) (p n : Nat) : List Bool := (List.range n).map fun i => bitI f (p + i) == 1
theorem seenL_snoc (f : Nat → Int) (p n : Nat) : seenL f p (n + 1) = seenL f p n ++ [bitI f (p + n) == 1] := by simp [seenL, List.range_succ]
theorem bit_cell (f : Nat → Int) (i : Nat) : Value.int .u8 (48 + bitI f i) = Value.int .u8 (bch (bitI f i == 1)).toNat := by
  rcases bitI_01 f i with h | h <;> rw [h] <;> rfl
theorem byteCells_snoc (l : List Bool) (b : Bool) : Lib.byteCells (cs (l ++ [b])) = Lib.byteCells (cs l) ++ [.int .u8 (bch b).toNat] := by simp [cs, Lib.byteCells]
theorem cs_len (l : List Bool) : (cs l).length = l.length := by simp [cs]
def seenN (N p : Nat) : Nat := min 20 (8 * N - p)
theorem seen_any (v : Value) (N : Nat) (f : Nat → Int) (p : Nat) (w : World) (hN : N ≤ 1000000) (hs : Sl .u8 w v N f) (hb : ∀ j, j < N → 0 ≤ f j ∧ f j ≤ 255) (hp : p ≤ 8 * N) :
    Calls Tryz.prog 85 #[v, .int .i64 p] w fun e w' => e = .returned (sv (cs (seenL f p (seenN N p)))) ∧ Below w.heap.size w w' := by
  have HR := Lib.hid (fun q V h h2 => Read_ok v N f q 1 V hN h hb (by decide) h2)
  have HN := Lib.hid (fun V h => Read_no v N V hN h)
  have HS := Lib.hid hs
  have hv : ∃ a c, v = .slice a N c := by obtain ⟨a, c, rfl, _⟩ := hs; exact ⟨a, c, rfl⟩
  clear hs hb
  have HV := Lib.hid hv
  obtain ⟨a, c, rfl⟩ := hv
  have I0 := Lib.hid (Lib.IsBuilderF.of (Lib.fresh_isBuilder 77 5 w))
  have B0 := Lib.hid ((Below.refl w.heap.size w).alloc (Nat.le_refl _) (.cells #[.pointer none, .slice none 0 0] 77))
  go_enter Tryz.func85, Tryz.ntmps85
  go_upto_region 2 with fail
  obtain ⟨w0, hw0⟩ : ∃ w0, w.alloc (.cells #[.pointer none, .slice none 0 0] 77) = w0 := ⟨_, rfl⟩
  rw [hw0] at I0 B0 ⊢
  clear hw0
  go_wp2_with fail
  go_loopw [9] (fun i wr => ∃ k : Nat, k ≤ seenN N p ∧ i = .int .i64 k ∧ Hid (Lib.IsBuilderF 77 5 w.heap.size w.heap.size (Lib.byteCells (cs (seenL f p k))) wr) ∧ Hid (Below w.heap.size w wr)) (fun i _ => 20 - (intOf i).toNat)
  case atStart => exact ⟨0, Nat.zero_le _, rfl, I0, B0⟩
  case round =>
    obtain ⟨k, hk, rfl, HI, HB⟩ := hrel
    have hkn : (seenN N p = 20 ∧ 20 ≤ 8 * N - p) ∨ (seenN N p = 8 * N - p ∧ 8 * N - p < 20) := by unfold seenN; omega
    by_cases h20 : k < 20
    · have t1 : (k : Int) < 20 := by omega
      have ep : wrap64 ((p : Int) + (k : Int)) = (p : Int) + (k : Int) := w64 (by omega)
      by_cases hmore : p + k < 8 * N
      · have CALL := HR.out (p + k) wr (HS.out.below HB.out) (by omega)
        rw [Int.natCast_add] at CALL
        have erd : rdV f (p + k) 1 = bitI f (p + k) := by simp [rdV]
        rw [erd] at CALL
        have HC := Lib.hid CALL
        have BC := Lib.hid (bit_cell f (p + k))
        have SN := Lib.hid (show Lib.byteCells (cs (seenL f p (k + 1))) = Lib.byteCells (cs (seenL f p k)) ++ [.int .u8 (bch (bitI f (p + k) == 1)).toNat] by rw [seenL_snoc, byteCells_snoc])
        have HL := Lib.hid (show (Lib.byteCells (cs (seenL f p k))).length + 1 ≤ 1000000 by simp [Lib.byteCells, cs, seenL]; omega)
        have h01 := bitI_01 f (p + k)
        obtain ⟨x, hx⟩ : ∃ x, bitI f (p + k) = x := ⟨_, rfl⟩
        rw [hx] at HC BC SN h01
        have ew : wrap64 (48 + x) = 48 + x := w64 (by omega)
        have hkl : k < seenN N p := by omega
        have zB := HB.out.size
        clear CALL erd hx hkn hmore
        have x0 : 0 ≤ 48 + x := by omega
        have x1 : 48 + x < 256 := by omega
        go_wp2_with (go_at_call 36; refine HC.out.mono ?_; rintro e w1 ⟨rfl, rfl⟩)
        refine (WriteByte_k w.heap.size w.heap.size _ (48 + x) wr HI.out HL.out zB).mono ?_
        rintro e w2 ⟨rfl, h2, b2, _⟩
        have HI2 : Hid (Lib.IsBuilderF 77 5 w.heap.size w.heap.size (Lib.byteCells (cs (seenL f p (k + 1)))) w2) := Lib.hid (by rw [SN.out, ← BC.out]; exact .inr h2)
        have HB2 := Lib.hid (HB.out.trans b2)
        clear h2 b2 HC BC SN HL ew x0 x1 h01 ep
        go_wp2_with fail
        go_roundw
        case rel => exact ⟨k + 1, by omega, by go_num, HI2, HB2⟩
        case measure => simp [intOf]; omega
      · have ek : k = 8 * N - p := by omega
        have en : seenN N p = k := by omega
        have e8 : (p : Int) + (k : Int) = 8 * (N : Int) := by omega
        rw [e8] at ep
        have ep2 : (p : Int) + (k : Int) = 8 * (N : Int) := e8
        have HC := Lib.hid (HN.out wr HV.out)
        have HEN := Lib.hid en
        have zB := HB.out.size
        clear hkn hmore ek en hk e8
        go_wp2_with (go_at_call 36; refine HC.out.mono ?_; rintro e w1 ⟨rfl, rfl⟩)
        refine (Tryz.Builder_String_any_k w.heap.size w.heap.size (cs (seenL f p k)) wr HI.out zB).mono ?_
        rintro e w2 ⟨rfl, _, b2, _⟩
        go_wp2_with fail
        go_ret
        exact ⟨by rw [HEN.out]; rfl, HB.out.trans b2⟩
    · have t1 : ¬ (k : Int) < 20 := by omega
      have en : seenN N p = k := by omega
      have HEN := Lib.hid en
      have zB := HB.out.size
      clear hkn en hk h20
      go_wp2_with fail
      refine (Tryz.Builder_String_any_k w.heap.size w.heap.size (cs (seenL f p k)) wr HI.out zB).mono ?_
      rintro e w2 ⟨rfl, _, b2, _⟩
      go_wp2_with fail
      go_ret
      exact ⟨by rw [HEN.out]; rfl, HB.out.trans b2⟩
end
end Cf
end Go.Proofs.YtpibeocngkjolaaGreatDoor

namespace Go.Proofs.YtpibeocngkjolaaGreatDoor
open Go.RowKit
set_option linter.unusedSimpArgs false
set_option linter.unusedVariables false
namespace Cf
section
set_option maxRecDepth 100000
set_option maxHeartbeats 4000000
theorem WriteString_k (B b : Nat) (bs : List Value) (s : ByteArray) (w : World) (h : Lib.IsBuilderF 77 5 B b bs w) (hlen : bs.length + s.size ≤ 1000000) (hBw : B ≤ w.heap.size) :
    Calls Tryz.prog 45 #[.pointer (some ⟨b, 0, none⟩), .string s] w fun e w' => e = .returned (.tuple #[.int .i64 s.size, .nilIface]) ∧ (Lib.BuilderAtF 77 5 B b (.pointer (some ⟨b, 0, none⟩)) (bs ++ Lib.strCells s) w' ∧ Below B w w' ∧ Lib.OthersKept 5 (some b) w w') := by
  obtain ⟨i0, hi, hz0, hz1, hz2⟩ := info_parts info_u8
  go_enter Tryz.func45, Tryz.ntmps45
  go_wp2_with (go_at_call 68; refine (copyCheck_k B b bs _ h).mono ?_)
  rintro e w1 ⟨rfl, h1, hb1, hk1⟩
  obtain ⟨hB, v, hbk, hown, hne⟩ := h1
  have c0 : w1.cell? ⟨b, 0, none⟩ = some (.pointer (some ⟨b, 0, none⟩)) := by rw [Lib.cell_of_heap hbk]; rfl
  have c1 : w1.cell? ⟨b, 1, none⟩ = some v := by rw [Lib.cell_of_heap hbk]; rfl
  go_wp2_with (at_builtin; refine Lib.wpList_append_own_stringF _ rfl _ _ 22 9 rfl B 5 i0 Tryz.underlying22 Tryz.underlying9 hi hz0 hz1 hz2 _ _ _ rfl hown s rfl ?c3 ?c4 ?c5 ?_)
  case c3 => unfold maxLen; omega
  case c4 => omega
  case c5 => have := hb1.size; omega
  intro v' w2 hown' hgrow _
  have hlt : b < w1.heap.size := by
    rcases Nat.lt_or_ge b w1.heap.size with h' | h'
    · exact h'
    · simp [Array.getElem?_eq_none h'] at hbk
  have hb2 : w2.heap[b]? = some (.cells #[.pointer (some ⟨b, 0, none⟩), v] 77 (0, 0)) := by
    rw [hgrow.block b hlt (fun e => hne e.symm)]
    exact hbk
  have d0 : w2.cell? ⟨b, 0, none⟩ = some (.pointer (some ⟨b, 0, none⟩)) := by rw [Lib.cell_of_heap hb2]; rfl
  have d1 : w2.cell? ⟨b, 1, none⟩ = some v := by rw [Lib.cell_of_heap hb2]; rfl
  have f1 : w2.frozen? ⟨b, 1, none⟩ = false := Lib.frozen_of_heap hb2 1
  obtain ⟨ao, n', cap, rfl⟩ : ∃ ao n' cap, v' = .slice ao n' cap := by
    rcases hown'.2 with ⟨hv, _⟩ | ⟨g, cap, cur, fz, hv, _⟩
    · exact ⟨_, _, _, hv⟩
    · exact ⟨_, _, _, hv⟩
  go_wp2
  go_ret2
  refine ⟨rfl, ?_, ?_, (hk1.grown hgrow (Lib.ownsRowF_kind hown)).setCell ⟨b, 1, none⟩ rfl _⟩
  · exact Lib.BuilderAtF.put (T := 77) (e := 5) hB hb2 (bs' := bs ++ Lib.strCells s) (by simpa [Lib.strCells_length] using hown') (by decide)
  · exact (hb1.grown hgrow (by have := hb1.size; omega) (fun k hk => (hown.lt k hk).1)).setCell (p := ⟨b, 1, none⟩) hB _
theorem strCells_sv (x : List UInt8) (S : ByteArray) (h : sv x = .string S) : Lib.strCells S = Lib.byteCells x := by
  obtain rfl : (⟨x.toArray⟩ : ByteArray) = S := Value.string.inj h
  simp [Lib.strCells, Lib.byteCells]
theorem byteCells_app (x y : List UInt8) : Lib.byteCells (x ++ y) = Lib.byteCells x ++ Lib.byteCells y := by simp [Lib.byteCells]
end
end Cf
end Go.Proofs.YtpibeocngkjolaaGreatDoor
