/- coeff.number: what number bits are (strconv.ParseInt at base 2, of noughts and ones). | coeff.number: ParseInt. -/
import Derived.Test.YtpibeocngkjolaaGreatDoorMgChP
import Derived.BigCall
import Derived.BigGuard
import Derived.Laws.Closers25
import Derived.Laws.Closers25b
import Derived.Laws.Strings3
import Derived.Lib.AtoiAllMem
import Derived.Lib.AtoiErrMem
import Derived.Lib.ConvBytes
import Derived.Lib.Hide
import Derived.Lib.Strings
import Derived.Lib.Walk
import Derived.WalkKit
set_option linter.unusedVariables false
set_option linter.unusedSimpArgs false

namespace Go.Proofs.YtpibeocngkjolaaGreatDoor
open Go.RowKit
set_option linter.unusedSimpArgs false
set_option linter.unusedVariables false
namespace Cf
/-- the number that bits are, behind a. -/
def numL : Nat → List Bool → Nat
  | a, [] => a
  | a, b :: l => numL (2 * a + (if b then 1 else 0)) l
theorem numL_bd : ∀ (l : List Bool) (a k : Nat), a < 2 ^ k → numL a l < 2 ^ (k + l.length)
  | [], a, k, h => h
  | b :: l, a, k, h => by
    have := numL_bd l (2 * a + (if b then 1 else 0)) (k + 1) (by rw [Nat.pow_succ]; split <;> omega)
    rw [numL, List.length_cons, show k + (l.length + 1) = k + 1 + l.length by omega]
    exact this
theorem numL_20 (l : List Bool) (h : l.length ≤ 20) : numL 0 l < 1048576 := by
  have h1 := numL_bd l 0 0 (by decide)
  have h2 : 2 ^ (0 + l.length) ≤ 2 ^ 20 := Nat.pow_le_pow_right (by decide) (by omega)
  have h3 : (2 : Nat) ^ 20 = 1048576 := by decide
  omega
section
set_option maxRecDepth 100000
set_option maxHeartbeats 32000000
set_option linter.unusedVariables false
theorem bch_get (l : List Bool) (k : Nat) (h : k < l.length) : (cs l)[k]? = some (bch (l[k])) := by simp [cs, h]
theorem parseUint2 (l : List Bool) (h0 : l ≠ []) (h20 : l.length ≤ 20) (w : World) :
    Calls Tryz.prog 128 #[sv (cs l), .int .i64 2, .int .i64 64] w fun e w' => e = .returned (.tuple #[.int .u64 (numL 0 l), .nilIface]) ∧ w' = Lib.bytesWorld w 5 ⟨(cs l).toArray⟩ := by
  unfold sv
  have hsz : (⟨(cs l).toArray⟩ : ByteArray).size = l.length := by show (cs l).toArray.size = _; simp [cs]
  obtain ⟨t, ht⟩ : ∃ t : ByteArray, (⟨(cs l).toArray⟩ : ByteArray) = t := ⟨_, rfl⟩
  rw [ht] at hsz ⊢
  have hl0 : 0 < l.length := List.length_pos_iff.2 h0
  have hemp : t.toList.isEmpty = false := by
    rw [← decide_eq_emptyBytes]
    exact decide_eq_false (fun h => by rw [h] at hsz; exact absurd hsz (Nat.ne_of_lt hl0))
  have hcv := Lib.run_convert_string_bytes (P := Tryz.prog) w 9 22 5 t (u := .string) Tryz.underlying9 Tryz.underlying22 Tryz.underlying5
  have hB : ∀ j, j < t.size → (Lib.bytesWorld w 5 t).cell? ⟨w.heap.size, j, none⟩ = some (.int .u8 (t.data.toList.getD j 0).toNat) := fun j hj => Lib.bytesWorld_cell w 5 t j hj
  have htl : t.data.toList = cs l := by rw [← ht]
  obtain ⟨W1, hW1⟩ : ∃ W1, W1 = Lib.bytesWorld w 5 t := ⟨_, rfl⟩
  rw [← hW1] at hcv hB ⊢
  rw [htl] at hB
  clear hW1 ht htl
  have hmv : IntKind.u64.wrap (IntKind.u64.wrap 18446744073709551616 - 1) = 18446744073709551615 := by
    rw [IntKind.wrap_u64, IntKind.wrap_u64]
    decide
  obtain ⟨n, hn⟩ : ∃ n, l.length = n := ⟨_, rfl⟩
  rw [hn] at hsz h20 hl0
  have HN := Lib.hid hn
  have HB := Lib.hid hB
  clear hn h0 hB
  go_enter Tryz.func128, Tryz.ntmps128
  go_wp2
  go_loop [12, 13, 101] (fun vu vn vi => ∃ (k : Nat) (a : Int), vu = .bool false ∧ vn = .int .u64 a ∧ vi = .int .i64 k ∧ k ≤ n ∧ Hid (∃ acc : Nat, a = (acc : Int) ∧ acc < 2 ^ k ∧ numL 0 l = numL acc (l.drop k)))
    (fun _ _ vi => n - (intOf vi).toNat)
  case atStart => exact ⟨0, 0, rfl, rfl, rfl, by omega, Lib.hid ⟨0, rfl, by decide, rfl⟩⟩
  case round =>
    obtain ⟨k, a, rfl, rfl, rfl, hk, hh⟩ := hrel
    obtain ⟨acc, ha, hacc, hdec⟩ := hh.out
    have h2k : 2 ^ k ≤ 2 ^ 20 := Nat.pow_le_pow_right (by decide) (by omega)
    have h220 : (2 : Nat) ^ 20 = 1048576 := by decide
    have a0 : 0 ≤ a := by omega
    have a1 : a < 1048576 := by omega
    by_cases hkn : k < n
    · have hkl : k < l.length := by rw [HN.out]; exact hkn
      have hc := HB.out k (by omega)
      have hget : (cs l).getD k 0 = bch (l[k]) := by simp [List.getD, bch_get l k hkl]
      rw [hget] at hc
      have hdrop : l.drop k = l[k] :: l.drop (k + 1) := List.drop_eq_getElem_cons hkl
      rw [hdrop] at hdec
      obtain ⟨bit, hbit⟩ : ∃ b, l[k] = b := ⟨_, rfl⟩
      rw [hbit] at hc hdec
      have HD := Lib.hid hdec
      have HA := Lib.hid ha
      have HC := Lib.hid hacc
      have i1 : a < 9223372036854775808 := by omega
      clear hh hdrop hget hbit hdec ha hacc h2k h220 HB
      cases bit with
      | true =>
        replace hc : W1.cell? ⟨w.heap.size, k, none⟩ = some (.int .u8 49) := hc
        have i2 : a * 2 + 1 < 18446744073709551616 := by omega
        go_wp2
        refine ⟨⟨k + 1, _, rfl, rfl, rfl, by omega, Lib.hid ⟨2 * acc + 1, by have := HA.out; push_cast; omega, by have := HC.out; rw [Nat.pow_succ]; omega, by rw [HD.out]; rfl⟩⟩, by simp [intOf]; omega⟩
      | false =>
        replace hc : W1.cell? ⟨w.heap.size, k, none⟩ = some (.int .u8 48) := hc
        have i2 : a * 2 < 18446744073709551616 := by omega
        go_wp2
        refine ⟨⟨k + 1, _, rfl, rfl, rfl, by omega, Lib.hid ⟨2 * acc, by have := HA.out; push_cast; omega, by have := HC.out; rw [Nat.pow_succ]; omega, by rw [HD.out]; rfl⟩⟩, by simp [intOf]; omega⟩
    · have hkk : k = n := by omega
      have HF : Hid ((numL 0 l : Int) = a) := Lib.hid (by
        rw [hdec, ha, List.drop_eq_nil_of_le (by rw [HN.out]; omega)]
        rfl)
      subst hkk
      clear hh hdec ha hacc h2k h220 HB hkn
      go_wp2
      go_ret2
      exact ⟨by rw [HF.out]; rfl, rfl⟩
end
end Cf
end Go.Proofs.YtpibeocngkjolaaGreatDoor

namespace Go.Proofs.YtpibeocngkjolaaGreatDoor
open Go.RowKit
set_option linter.unusedSimpArgs false
set_option linter.unusedVariables false
namespace Cf
section
set_option maxRecDepth 100000
set_option maxHeartbeats 4000000
set_option linter.unusedVariables false
theorem parseInt2i (l : List Bool) (h0 : l ≠ []) (h20 : l.length ≤ 20) (w : World) :
    Calls Tryz.prog 120 #[sv (cs l), .int .i64 2, .int .i64 64] w fun e w' => e = .returned (.tuple #[.int .i64 (numL 0 l), .nilIface]) ∧ Below w.heap.size w w' := by
  have PU := Lib.hid (parseUint2 l h0 h20 w)
  have BW := Lib.hid (Lib.bytesWorld_below w 5 ⟨(cs l).toArray⟩)
  have hnum := numL_20 l h20
  obtain ⟨b, l', rfl⟩ : ∃ b l', l = b :: l' := List.exists_cons_of_ne_nil h0
  have hsz : (⟨(cs (b :: l')).toArray⟩ : ByteArray).size = l'.length + 1 := by show (cs (b :: l')).toArray.size = _; simp [cs]
  have hg : ∀ h, (⟨(cs (b :: l')).toArray⟩ : ByteArray)[0]'h = bch b := fun h => by simp [cs]; rfl
  unfold sv at PU ⊢
  obtain ⟨m, hm⟩ : ∃ m, numL 0 (b :: l') = m := ⟨_, rfl⟩
  rw [hm] at PU hnum ⊢
  obtain ⟨z, hz'⟩ : ∃ z : Int, (m : Int) = z := ⟨_, rfl⟩
  rw [hz'] at PU ⊢
  have z0 : 0 ≤ z := by omega
  have z1 : z < 1048576 := by omega
  clear hz' hnum
  obtain ⟨t, ht⟩ : ∃ t : ByteArray, (⟨(cs (b :: l')).toArray⟩ : ByteArray) = t := ⟨_, rfl⟩
  have hemp : t.toList.isEmpty = false := by
    rw [← decide_eq_emptyBytes]
    exact decide_eq_false (fun h => by rw [ht, h] at hsz; have : (0 : Nat) = l'.length + 1 := hsz; omega)
  rw [ht] at PU BW hsz hg ⊢
  have hz : (0 : Int) < (t.size : Int) := by omega
  clear hsz ht hm h20 h0
  cases b <;>
  · go_enter Tryz.func120, Tryz.ntmps120
    go_wp2_with (go_at_call 128; refine PU.out.mono ?_; rintro e w1 ⟨rfl, rfl⟩)
    go_ret2
    exact ⟨rfl, BW.out⟩
theorem ParseInt2 (l : List Bool) (h0 : l ≠ []) (h20 : l.length ≤ 20) (w : World) :
    Calls Tryz.prog 107 #[sv (cs l), .int .i64 2, .int .i64 64] w fun e w' => e = .returned (.tuple #[.int .i64 (numL 0 l), .nilIface]) ∧ Below w.heap.size w w' := by
  have PU := Lib.hid (parseInt2i l h0 h20 w)
  unfold sv at PU ⊢
  obtain ⟨z, hz'⟩ : ∃ z : Int, (numL 0 l : Int) = z := ⟨_, rfl⟩
  rw [hz'] at PU ⊢
  obtain ⟨t, ht⟩ : ∃ t : ByteArray, (⟨(cs l).toArray⟩ : ByteArray) = t := ⟨_, rfl⟩
  rw [ht] at PU ⊢
  clear hz' ht h0 h20
  go_enter Tryz.func107, Tryz.ntmps107
  go_wp2_with (go_at_call 120; refine PU.out.mono ?_; rintro e w1 ⟨rfl, b1⟩; have B1 := Lib.hid b1; clear b1)
  go_ret2
  exact ⟨rfl, B1.out⟩
theorem number_any (l : List Bool) (h0 : l ≠ []) (h20 : l.length ≤ 20) (w : World) :
    Calls Tryz.prog 87 #[sv (cs l)] w fun e w' => e = .returned (.int .i64 (numL 0 l)) ∧ Below w.heap.size w w' := by
  have PU := Lib.hid (ParseInt2 l h0 h20 w)
  unfold sv at PU ⊢
  obtain ⟨z, hz'⟩ : ∃ z : Int, (numL 0 l : Int) = z := ⟨_, rfl⟩
  rw [hz'] at PU ⊢
  obtain ⟨t, ht⟩ : ∃ t : ByteArray, (⟨(cs l).toArray⟩ : ByteArray) = t := ⟨_, rfl⟩
  rw [ht] at PU ⊢
  clear hz' ht h0 h20
  go_enter Tryz.func87, Tryz.ntmps87
  go_wp2_with (go_at_call 107; refine PU.out.mono ?_; rintro e w1 ⟨rfl, b1⟩; have B1 := Lib.hid b1; clear b1)
  go_ret
  exact ⟨rfl, B1.out⟩
end
end Cf
end Go.Proofs.YtpibeocngkjolaaGreatDoor
