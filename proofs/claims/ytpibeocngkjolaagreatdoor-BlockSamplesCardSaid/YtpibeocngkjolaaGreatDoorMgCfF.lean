/- strconv.FormatInt at base 2. -/
import Derived.Test.YtpibeocngkjolaaGreatDoorMgCfN2
import Derived.Test.YtpibeocngkjolaaGreatDoorMgCfT
set_option linter.unusedVariables false
set_option linter.unusedSimpArgs false

namespace Go.Proofs.YtpibeocngkjolaaGreatDoor
open Go.RowKit
set_option linter.unusedSimpArgs false
set_option linter.unusedVariables false
namespace Cf
section
set_option maxRecDepth 100000
set_option maxHeartbeats 4000000
set_option linter.unusedVariables false
theorem tz2 (w : World) (hT : Tabs w) : Calls Tryz.prog 138 #[.int .u64 2] w fun e w' => e = .returned (.int .i64 1) ∧ w = w' := by
  have c1 := hT.bj
  have e1 : bits .and .u64 2 (IntKind.u64.wrap (-2)) = 2 := by decide +kernel
  have e2 : IntKind.u64.wrap 571740426102707730 = 571740426102707730 := by decide +kernel
  go_enter Tryz.func138, Tryz.ntmps138
  go_wp2
  go_ret
  exact ⟨rfl, rfl⟩
theorem numL_snoc : ∀ (l : List Bool) (a : Nat) (b : Bool), numL a (l ++ [b]) = 2 * numL a l + (if b then 1 else 0)
  | [], _, _ => rfl
  | _ :: l, _, b => numL_snoc l _ b
theorem numL_ge : ∀ (l : List Bool) (a : Nat), 1 ≤ a → 1 ≤ numL a l
  | [], _, h => h
  | b :: l, a, h => numL_ge l _ (by split <;> omega)
/-- what the array of digits holds when j of them are written. -/
def digF (l : List Bool) (j : Nat) (i : Nat) : Int := if i < 65 - j then 0 else (bch (l.getD (l.length - (65 - i)) false)).toNat
theorem digF_step (l : List Bool) (j : Nat) (hj : j < l.length) (h : l.length ≤ 20) (i : Nat) (hi : i < 65) : (if i = 65 - (j + 1) then ((bch (l.getD (l.length - (j + 1)) false)).toNat : Int) else digF l j i) = digF l (j + 1) i := by
  unfold digF
  by_cases e : i = 65 - (j + 1)
  · rw [if_pos e, if_neg (by omega), show l.length - (65 - i) = l.length - (j + 1) by omega]
  · rw [if_neg e]
    by_cases h2 : i < 65 - (j + 1)
    · rw [if_pos (by omega), if_pos h2]
    · rw [if_neg (by omega), if_neg h2]
theorem u64_and_1 (y : Int) (h0 : 0 ≤ y) (h1 : y < 18446744073709551616) : bits .and .u64 y 1 = y % 2 := by
  show IntKind.u64.wrap ((BitVec.ofInt 64 y &&& BitVec.ofInt 64 ((1 : Nat) : Int)).toNat : Int) = _
  obtain ⟨n, rfl⟩ : ∃ n : Nat, y = n := ⟨y.toNat, by omega⟩
  rw [BitVec.toNat_and, ofInt_64 n (by omega), ofInt_64 1 (by omega), show (1 : Nat) = 2 ^ 1 - 1 from rfl, Nat.and_two_pow_sub_one_eq_mod]
  show (((n % 2 : Nat) : Int)) % 18446744073709551616 = _
  omega
theorem take_numL (l : List Bool) (j : Nat) (hj : j < l.length) : (numL 1 (l.take (l.length - j)) : Int) = 2 * (numL 1 (l.take (l.length - (j + 1))) : Int) + (if l.getD (l.length - (j + 1)) false then 1 else 0) := by
  have e : l.take (l.length - j) = l.take (l.length - (j + 1)) ++ [l.getD (l.length - (j + 1)) false] := by
    have h1 : l.length - j = l.length - (j + 1) + 1 := by omega
    have h2 : l.length - (j + 1) < l.length := by omega
    rw [h1, List.take_add_one, List.getElem?_eq_getElem h2, Option.toList_some, List.getD_eq_getElem?_getD, List.getElem?_eq_getElem h2]
    rfl
  rw [e, numL_snoc]
  split <;> simp
theorem foldl_push (l : List Int) : ∀ b : ByteArray, (l.foldl (fun r x => r.push (UInt8.ofNat x.toNat)) b) = ⟨b.data ++ (l.map fun x => UInt8.ofNat x.toNat).toArray⟩ := by
  induction l with
  | nil => intro b; simp
  | cons x l ih =>
    intro b
    rw [List.foldl_cons, ih]
    apply ByteArray.ext
    simp
theorem strOf_list (n : Nat) (f : Nat → Int) (x : List UInt8) (hx : x.length = n) (h : ∀ i, (hi : i < n) → UInt8.ofNat (f i).toNat = x[i]) : strOf n f = ⟨x.toArray⟩ := by
  unfold strOf
  rw [foldl_push]
  apply ByteArray.ext
  simp only [ByteArray.data_empty, Array.empty_append, List.map_map]
  congr 1
  apply List.ext_getElem
  · simp [hx]
  · intro i h1 h2
    simp only [List.getElem_map, List.getElem_range, Function.comp_apply]
    exact h i (by simpa using h1)
theorem slice_arr65 (g L : Nat) (hL : L ≤ 19) (Z : Int) (hZ : Z = 65 - (L : Int) - 1) (w : World) : (Instr.sliceAt 176 (.pointer (some ⟨g, 0, none⟩)) (some (.int .i64 Z)) none none).run Tryz.prog w = .ok (.slice (some ⟨g, 64 - L, none⟩) (L + 1) (L + 1)) w := by
  have ht : Tryz.prog.underlying 176 = some (.array (Tryz.prog.arrayLen 176) (Tryz.prog.elem 176)) := by kernel_rfl
  have hl : Tryz.prog.arrayLen 176 = 65 := by kernel_rfl
  obtain ⟨i0, hi, hz0, hz1, hz2⟩ := info_parts info_byte
  have he : Tryz.prog.elem 176 = 5 := by kernel_rfl
  rw [run_sliceAt_array_l w 176 _ ht .i64 Z (by omega) (by rw [hl]; omega), he, hl]
  have hs : (sizeOf 5).run Tryz.prog w = .ok 1 w := by simp [sizeOf, typeInfo, hi, hz1]
  rw [hs]
  have e1 : Z.toNat = 64 - L := by omega
  have e2 : 65 - (64 - L) = L + 1 := by omega
  have e3 : ¬ 65 = 64 - L := by omega
  simp only [Result.andThen, slicedAt, e1, e2, if_neg e3, Nat.mul_one]
  have ea : (⟨g, 0, none⟩ : Addr).add (64 - L) = ⟨g, 64 - L, none⟩ := by
    have h6 : ¬ 64 - L = 0 := by omega
    simp [Addr.add, h6]
  rw [ea]
theorem numL_lt (l : List Bool) (h : l.length ≤ 19) : numL 1 l < 1048576 := by
  have := numL_20 (true :: l) (by simp; omega)
  simpa [numL] using this
theorem formatBits2 (l : List Bool) (h20 : l.length ≤ 19) (w : World) (hT : Tabs w) :
    Calls Tryz.prog 127 #[.slice none 0 0, .int .u64 (numL 1 l), .int .i64 2, .bool false, .bool false] w fun e w' => e = .returned (.tuple #[.slice none 0 0, sv (cs (true :: l))]) ∧ Below w.heap.size w w' := by
  have HT := Lib.hid hT
  obtain ⟨u0, hu0⟩ : ∃ u : Int, (numL 1 l : Int) = u := ⟨_, rfl⟩
  rw [hu0]
  have HU := Lib.hid hu0
  have e1 : bits .and .i64 2 1 = 0 := by decide +kernel
  clear hu0 hT
  have hA0 : Arr (w.alloc (Obj.cells Tryz.zeroCells176 176)) .u8 w.heap.size 65 (digF l 0) := Arr.new w .u8 _ _ 65 _ (fun i hi => by
    unfold digF
    rw [if_pos (by omega)]
    have e : Tryz.zeroCells176 = Array.replicate 65 (.int .u8 0) := by rfl
    rw [e, Array.getElem?_replicate, if_pos hi])
  have B0 := Lib.hid ((Below.refl w.heap.size w).alloc (Nat.le_refl _) (Obj.cells Tryz.zeroCells176 176))
  have HA := Lib.hid hA0
  clear hA0
  go_enter Tryz.func127, Tryz.ntmps127
  go_wp2_with (first
    | (go_at_call 138; refine (tz2 _ (HT.out.below ((Below.refl _ _).alloc (Nat.le_refl _) _))).mono ?_; rintro e w1 ⟨rfl, rfl⟩)
    | go_in)
  obtain ⟨w0, hw0⟩ : ∃ w0, w.alloc (Obj.cells Tryz.zeroCells176 176) = w0 := ⟨_, rfl⟩
  rw [hw0] at HA B0 ⊢
  clear hw0 e1
  go_loopw [13, 1] (fun i u wr => ∃ (j : Nat) (U : Int), j ≤ l.length ∧ i = .int .i64 (65 - (j : Int)) ∧ u = .int .u64 U ∧ Hid ((numL 1 (l.take (l.length - j)) : Int) = U) ∧ Hid (Arr wr .u8 w.heap.size 65 (digF l j)) ∧ Hid (Below w.heap.size w wr)) (fun i _ _ => (intOf i).toNat)
  case atStart => exact ⟨0, u0, Nat.zero_le _, rfl, rfl, by rw [Nat.sub_zero, List.take_length]; exact HU, HA, B0⟩
  case round =>
    obtain ⟨j, U, hj, rfl, rfl, HN, HA, HB⟩ := hrel
    by_cases hlt : j < l.length
    · have e1 := take_numL l j hlt
      have g1 := numL_ge (l.take (l.length - (j + 1))) 1 (Nat.le_refl _)
      have g2 := numL_lt (l.take (l.length - (j + 1)))
      have g3 : (l.take (l.length - (j + 1))).length ≤ 19 := by rw [List.length_take]; omega
      rw [HN.out] at e1
      obtain ⟨U', hU'⟩ : ∃ x : Int, (numL 1 (l.take (l.length - (j + 1))) : Int) = x := ⟨_, rfl⟩
      have k1 : 1 ≤ U' := by omega
      have HN2 := Lib.hid hU'
      have k2 : U' < 1048576 := by
        have := g2 g3
        omega
      rw [hU'] at e1
      have BC : Hid ((bch (l.getD (l.length - (j + 1)) false)).toNat = (if l.getD (l.length - (j + 1)) false then 49 else 48)) := Lib.hid (by cases l.getD (l.length - (j + 1)) false <;> rfl)
      have e64 : 65 - (j + 1) = 64 - j := by omega
      have HA2 := HA.out.set (65 - (j + 1)) ((bch (l.getD (l.length - (j + 1)) false)).toNat : Int)
      have HA3 := Lib.hid (HA2.congr (fun i hi => digF_step l j hlt (by omega) i hi))
      rw [BC.out] at HA3
      have hcell := HA.out (65 - (j + 1)) (by omega)
      rw [show digF l j (65 - (j + 1)) = 0 by unfold digF; rw [if_pos (by omega)]] at hcell
      rw [e64] at HA3 hcell
      have hB3 : ∀ v, Hid (Below w.heap.size w (wr.setCell ⟨w.heap.size, 64 - j, none⟩ v)) := fun v => Lib.hid (HB.out.setCell (Nat.le_refl _) v)
      have hc1 := hcell.1
      have hc2 := hcell.2
      have hi0 : (0 : Int) ≤ 65 - (j : Int) - 1 := by omega
      have hi1 : 65 - (j : Int) - 1 < 65 := by omega
      have ei : wrap64 (65 - (j : Int) - 1) = 65 - (j : Int) - 1 := w64 (by omega)
      have ei2 : (65 - (j : Int) - 1).toNat = 64 - j := by omega
      clear g1 g2 g3 hU' HA2 BC e64 hcell
      cases hb : l.getD (l.length - (j + 1)) false
      · rw [hb] at e1 HA3
        simp only [if_false, Bool.false_eq_true, Int.add_zero] at e1 HA3
        have t1 : U ≥ 2 := by omega
        have ea : bits .and .u64 U 1 = 0 := by rw [u64_and_1 U (by omega) (by omega)]; omega
        have es : U / 2 = U' := by omega
        clear e1 hb
        go_wp2_with fail
        exact ⟨⟨j + 1, U', by omega, by go_num, rfl, HN2, HA3, hB3 _⟩, by simp [intOf]; omega⟩
      · rw [hb] at e1 HA3
        simp only [if_true] at e1 HA3
        have t1 : U ≥ 2 := by omega
        have ea : bits .and .u64 U 1 = 1 := by rw [u64_and_1 U (by omega) (by omega)]; omega
        have es : U / 2 = U' := by omega
        clear e1 hb
        go_wp2_with fail
        exact ⟨⟨j + 1, U', by omega, by go_num, rfl, HN2, HA3, hB3 _⟩, by simp [intOf]; omega⟩
    · have ej : j = l.length := by omega
      subst ej
      have e1 : U = 1 := by rw [← HN.out, Nat.sub_self, List.take_zero]; rfl
      subst e1
      have hcell := HA.out (64 - l.length) (by omega)
      rw [show digF l l.length (64 - l.length) = 0 by unfold digF; rw [if_pos (by omega)]] at hcell
      have hc1 := hcell.1
      have hc2 := hcell.2
      have hi0 : (0 : Int) ≤ 65 - (l.length : Int) - 1 := by omega
      have hi1 : 65 - (l.length : Int) - 1 < 65 := by omega
      have ei : wrap64 (65 - (l.length : Int) - 1) = 65 - (l.length : Int) - 1 := w64 (by omega)
      have ei2 : (65 - (l.length : Int) - 1).toNat = 64 - l.length := by omega
      have S1 := fun W => slice_arr65 w.heap.size l.length h20 _ rfl W
      have HA2 := HA.out.set (64 - l.length) 49
      have C1 : (convert 22 9 (.slice (some ⟨w.heap.size, 64 - l.length, none⟩) (l.length + 1) (l.length + 1))).run Tryz.prog (wr.setCell ⟨w.heap.size, 64 - l.length, none⟩ (.int .u8 49)) = .ok (sv (cs (true :: l))) (wr.setCell ⟨w.heap.size, 64 - l.length, none⟩ (.int .u8 49)) := by
        have e2 : strOf (l.length + 1) (fun i => (bch ((true :: l).getD i false)).toNat) = ⟨(cs (true :: l)).toArray⟩ := strOf_list _ _ _ (by simp [cs]) (fun i hi => by
          have h3 : i < (true :: l).length := by simpa using hi
          rw [List.getD_eq_getElem?_getD, List.getElem?_eq_getElem h3, Option.getD_some]
          simp only [cs, List.getElem_map, Int.toNat_natCast]
          exact UInt8.ofNat_toNat)
        show _ = Result.ok (Value.string ⟨(cs (true :: l)).toArray⟩) _
        rw [← e2]
        refine run_str Tryz.underlying22 Tryz.underlying5 Tryz.underlying9 ?_ _
        intro i hi
        have h := (HA2 (64 - l.length + i) (by omega)).1
        rw [h]
        congr 2
        show (if 64 - l.length + i = 64 - l.length then (49 : Int) else digF l l.length (64 - l.length + i)) = (bch ((true :: l).getD i false)).toNat
        rcases i with _ | i
        · rw [Nat.add_zero, if_pos rfl]; rfl
        · rw [if_neg (by omega)]
          unfold digF
          rw [if_neg (by omega), show l.length - (65 - (64 - l.length + (i + 1))) = i by omega]
          rfl
      have HB3 : Hid (Below w.heap.size w (wr.setCell ⟨w.heap.size, 64 - l.length, none⟩ (.int .u8 49))) := Lib.hid (HB.out.setCell (Nat.le_refl _) _)
      clear hcell hlt hj HA2 HN HA HB
      unfold sv at C1
      have C2 := Lib.hid (And.intro C1 HB3)
      clear C1 HB3
      go_wp2_with fail
      generalize hX : World.setCell wr _ _ = W4
      have hX2 : wr.setCell ⟨w.heap.size, 64 - l.length, none⟩ (.int .u8 49) = W4 := hX
      rw [hX2] at C2
      have C1 := C2.out.1
      have HB3 := C2.out.2
      clear C2 hX hX2
      rw [C1]
      clear C1
      go_wp2_with fail
      go_ret2
      exact ⟨rfl, HB3.out⟩
theorem FormatInt2 (l : List Bool) (h20 : l.length ≤ 19) (w : World) (hT : Tabs w) :
    Calls Tryz.prog 114 #[.int .i64 (numL 1 l), .int .i64 2] w fun e w' => e = .returned (sv (cs (true :: l))) ∧ Below w.heap.size w w' := by
  have HC := Lib.hid (formatBits2 l h20 w hT)
  have h1 := numL_ge l 1 (Nat.le_refl _)
  have h2 := numL_lt l h20
  obtain ⟨U, hU⟩ : ∃ u : Int, (numL 1 l : Int) = u := ⟨_, rfl⟩
  rw [hU] at HC ⊢
  have k1 : 1 ≤ U := by omega
  have k2 : U < 1048576 := by omega
  have k3 : ¬ U < 0 := by omega
  have k4 : IntKind.u64.wrap U = U := by show U % 18446744073709551616 = U; omega
  clear h1 h2 hU
  go_enter Tryz.func114, Tryz.ntmps114
  go_wp2_with (go_at_call 127; refine HC.out.mono ?_; rintro e w1 ⟨rfl, hB⟩)
  go_ret
  exact ⟨rfl, hB⟩
theorem FormatInt (l : List Bool) (h20 : l.length ≤ 19) (w : World) (hT : Tabs w) :
    Calls Tryz.prog 95 #[.int .i64 (numL 1 l), .int .i64 2] w fun e w' => e = .returned (sv (cs (true :: l))) ∧ Below w.heap.size w w' := by
  have HC := Lib.hid (FormatInt2 l h20 w hT)
  go_enter Tryz.func95, Tryz.ntmps95
  go_wp2_with (go_at_call 114; refine HC.out.mono ?_; rintro e w1 ⟨rfl, hB⟩)
  go_ret
  exact ⟨rfl, hB⟩
end
end Cf
end Go.Proofs.YtpibeocngkjolaaGreatDoor
