/- coeff.pair, coeff.Escape, coeff.End. -/
import Derived.Test.YtpibeocngkjolaaGreatDoorMgCfF
import Derived.Test.YtpibeocngkjolaaGreatDoorMgDpW
set_option linter.unusedVariables false
set_option linter.unusedSimpArgs false

namespace Go.Proofs.YtpibeocngkjolaaGreatDoor
open Go.RowKit
set_option linter.unusedSimpArgs false
set_option linter.unusedVariables false
namespace Cf
section
set_option maxRecDepth 100000
set_option maxHeartbeats 4000000
set_option linter.unusedVariables false
def prV (r l : Int) : Value := .agg #[.int .i64 r, .int .i64 l]
def pairB (r l : Int) : Bool := decide (0 ≤ r ∧ r ≤ 63 ∧ -127 ≤ l ∧ l ≤ 127 ∧ l ≠ 0)
theorem pair_any (r l : Int) (w : World) : Calls Tryz.prog 69 #[prV r l] w fun e w' => e = .returned (.bool (pairB r l)) ∧ Below w.heap.size w w' := by
  unfold prV pairB
  go_enter Tryz.func69, Tryz.ntmps69
  have B1 : ∀ {v : Obj}, Below w.heap.size w (w.alloc v) := fun {v} => (Below.refl w.heap.size w).alloc (Nat.le_refl _) v
  by_cases h1 : 0 ≤ r
  · by_cases h2 : r ≤ 63
    · by_cases h3 : -127 ≤ l
      · by_cases h4 : l ≤ 127
        · by_cases h5 : l = 0
          · subst h5
            go_wp2_with fail
            go_ret
            exact ⟨by simp, B1⟩
          · go_wp2_with fail
            go_ret
            exact ⟨by simp [*] <;> omega, B1⟩
        · go_wp2_with fail
          go_ret
          exact ⟨by simp [*] <;> omega, B1⟩
      · go_wp2_with fail
        go_ret
        exact ⟨by simp [*] <;> omega, B1⟩
    · go_wp2_with fail
      go_ret
      exact ⟨by simp [*] <;> omega, B1⟩
  · go_wp2_with fail
    go_ret
    exact ⟨by simp [*] <;> omega, B1⟩
theorem numL_one : ∀ (l : List Bool) (a : Nat), numL a l = a * 2 ^ l.length + numL 0 l
  | [], a => by simp [numL]
  | b :: l, a => by
    rw [numL, numL_one l (2 * a + _), numL, numL_one l (2 * 0 + _), List.length_cons, Nat.pow_succ, Nat.add_mul, Nat.mul_zero, Nat.zero_add]
    have : 2 * a * 2 ^ l.length = a * (2 ^ l.length * 2) := by rw [Nat.mul_comm 2 a, Nat.mul_assoc, Nat.mul_comm 2]
    omega
/-- the last k bits of n. -/
def bitsL : Nat → Nat → List Bool
  | 0, _ => []
  | k + 1, n => bitsL k (n / 2) ++ [n % 2 == 1]
theorem bitsL_len : ∀ k n, (bitsL k n).length = k
  | 0, _ => rfl
  | k + 1, n => by simp [bitsL, bitsL_len k]
theorem numL_bitsL : ∀ k n, numL 0 (bitsL k n) = n % 2 ^ k
  | 0, n => by simp [bitsL, numL, Nat.mod_one]
  | k + 1, n => by
    rw [bitsL, numL_snoc, numL_bitsL k, Nat.pow_succ, Nat.mul_comm (2 ^ k) 2, Nat.mod_mul]
    have : n % 2 = 0 ∨ n % 2 = 1 := by omega
    rcases this with h | h <;> rw [h] <;> simp <;> omega
theorem text6 (n : Nat) (hn : n < 64) (w : World) (hT : Tabs w) :
    Calls Tryz.prog 94 #[.int .i64 (n : Int), .int .i64 6] w fun e w' => e = .returned (sv (cs (bitsL 6 n))) ∧ Below w.heap.size w w' := by
  have e1 : numL 1 (bitsL 6 n) = n + 64 := by rw [numL_one, bitsL_len, numL_bitsL]; omega
  have HF := Lib.hid (FormatInt (bitsL 6 n) (by rw [bitsL_len]; decide) w hT)
  rw [e1] at HF
  have hl := bitsL_len 6 n
  obtain ⟨x, hx⟩ : ∃ x, bitsL 6 n = x := ⟨_, rfl⟩
  rw [hx] at hl HF ⊢
  have hs : (⟨(cs (true :: x)).toArray⟩ : ByteArray).size = 7 := by rw [ba_size]; simp [cs, hl]
  have ex : (⟨(cs (true :: x)).toArray⟩ : ByteArray).extract 1 7 = ⟨(cs x).toArray⟩ := by
    rw [ba_extract]
    congr 2
    rw [List.take_of_length_le (by simp [cs, hl])]
    rfl
  have e64 : ((n + 64 : Nat) : Int) = (n : Int) + 64 := by omega
  rw [e64] at HF
  have ew : wrap64 ((n : Int) + 64) = (n : Int) + 64 := w64 (by omega)
  unfold sv at HF ⊢
  clear e1 hx e64 hl
  go_enter Tryz.func94, Tryz.ntmps94
  go_wp2_with (go_at_call 95; refine HF.out.mono ?_; rintro e w1 ⟨rfl, hB⟩)
  go_ret
  exact ⟨rfl, hB⟩
theorem text8 (n : Nat) (hn : n < 256) (w : World) (hT : Tabs w) :
    Calls Tryz.prog 94 #[.int .i64 (n : Int), .int .i64 8] w fun e w' => e = .returned (sv (cs (bitsL 8 n))) ∧ Below w.heap.size w w' := by
  have e1 : numL 1 (bitsL 8 n) = n + 256 := by rw [numL_one, bitsL_len, numL_bitsL]; omega
  have HF := Lib.hid (FormatInt (bitsL 8 n) (by rw [bitsL_len]; decide) w hT)
  rw [e1] at HF
  have hl := bitsL_len 8 n
  obtain ⟨x, hx⟩ : ∃ x, bitsL 8 n = x := ⟨_, rfl⟩
  rw [hx] at hl HF ⊢
  have hs : (⟨(cs (true :: x)).toArray⟩ : ByteArray).size = 9 := by rw [ba_size]; simp [cs, hl]
  have ex : (⟨(cs (true :: x)).toArray⟩ : ByteArray).extract 1 9 = ⟨(cs x).toArray⟩ := by
    rw [ba_extract]
    congr 2
    rw [List.take_of_length_le (by simp [cs, hl])]
    rfl
  have e64 : ((n + 256 : Nat) : Int) = (n : Int) + 256 := by omega
  rw [e64] at HF
  have ew : wrap64 ((n : Int) + 256) = (n : Int) + 256 := w64 (by omega)
  unfold sv at HF ⊢
  clear e1 hx e64 hl
  go_enter Tryz.func94, Tryz.ntmps94
  go_wp2_with (go_at_call 95; refine HF.out.mono ?_; rintro e w1 ⟨rfl, hB⟩)
  go_ret
  exact ⟨rfl, hB⟩
theorem lvl_conv (l : Int) (h : -127 ≤ l ∧ l ≤ 127) : IntKind.u8.wrap (IntKind.i8.wrap l) = l % 256 := by
  have h1 : IntKind.i8.wrap l = l := by
    have e1 : ((2 : Int) ^ IntKind.i8.bits) = 256 := rfl
    have e2 : ((2 : Int) ^ (IntKind.i8.bits - 1)) = 128 := rfl
    have e3 : IntKind.i8.signed = true := rfl
    simp only [IntKind.wrap, e1, e2, e3, Bool.true_and, decide_eq_true_eq]
    split <;> omega
  rw [h1]
  rfl
def escL (r l : Int) : List Bool := [false, false, false, false, false, true] ++ bitsL 6 r.toNat ++ bitsL 8 (l % 256).toNat
structure PK (w : World) (r l : Int) (wx : World) : Prop where
  t : Tabs wx
  c0 : wx.cell? ⟨w.heap.size, 0, none⟩ = some (.int .i64 r)
  c1 : wx.cell? ⟨w.heap.size, 1, none⟩ = some (.int .i64 l)
  bel : Below w.heap.size w wx
theorem PK.below {w : World} {r l : Int} {wx wy : World} (h : PK w r l wx) (hb : Below wx.heap.size wx wy) : PK w r l wy :=
  ⟨h.t.below hb, (hb.cell (World.block_lt_of_cell? _ _ h.c0)).trans h.c0, (hb.cell (World.block_lt_of_cell? _ _ h.c1)).trans h.c1, chain h.bel hb⟩
theorem PK.drew {w : World} {r l : Int} {wx : World} (h : PK w r l wx) : PK w r l wx.drew := h.below (Below.refl _ _).drew
theorem PK.new {w : World} (r l : Int) (hT : Tabs w) : PK w r l (w.alloc (Obj.cells #[.int .i64 r, .int .i64 l] 69)) :=
  have hb : Below w.heap.size w (w.alloc (Obj.cells #[.int .i64 r, .int .i64 l] 69)) := (Below.refl w.heap.size w).alloc (Nat.le_refl _) _
  have hn := heap_alloc_new w (Obj.cells #[.int .i64 r, .int .i64 l] 69)
  ⟨hT.below hb, by rw [cell_of_row _ _ 0 _ _ (0, 0) hn]; rfl, by rw [cell_of_row _ _ 1 _ _ (0, 0) hn]; rfl, hb⟩
theorem Escape_any (r l : Int) (w : World) (hT : Tabs w) :
    Calls Tryz.prog 71 #[prV r l] w fun e w' => e = .returned (.tuple #[if pairB r l then sv (cs (escL r l)) else sv [], .int .i64 (if pairB r l then 0 else 3)]) ∧ Below w.heap.size w w' := by
  have HP := Lib.hid (fun W => pair_any r l W)
  by_cases hp : pairB r l
  · rw [if_pos hp, if_pos hp]
    rw [hp] at HP
    have hr : 0 ≤ r ∧ r ≤ 63 ∧ -127 ≤ l ∧ l ≤ 127 ∧ l ≠ 0 := by simpa [pairB] using hp
    have H6 := Lib.hid (fun W h => text6 r.toNat (by omega) W h)
    have H8 := Lib.hid (fun W h => text8 (l % 256).toNat (by omega) W h)
    have el := lvl_conv l ⟨hr.2.2.1, hr.2.2.2.1⟩
    have el3 : IntKind.i64.wrap (l % 256) = l % 256 := IntWalk.i64_in _ (by omega)
    have er : ((r.toNat : Nat) : Int) = r := by omega
    have el2 : (((l % 256).toNat : Nat) : Int) = l % 256 := by omega
    rw [er] at H6
    rw [el2] at H8
    have HT := Lib.hid hT
    unfold prV at HP ⊢
    unfold sv
    have P0 := Lib.hid (PK.new r l hT)
    have X6 := bitsL_len 6 r.toNat
    have X8 := bitsL_len 8 (l % 256).toNat
    have HE : (⟨#[48, 48, 48, 48, 48, 49]⟩ : ByteArray) ++ ⟨(cs (bitsL 6 r.toNat)).toArray⟩ ++ ⟨(cs (bitsL 8 (l % 256).toNat)).toArray⟩ = ⟨(cs (escL r l)).toArray⟩ := by
      apply ByteArray.ext
      simp [escL, cs, bch]
    have z6 : (⟨(cs (bitsL 6 r.toNat)).toArray⟩ : ByteArray).size = 6 := by rw [ba_size]; simp [cs, X6]
    have z8 : (⟨(cs (bitsL 8 (l % 256).toNat)).toArray⟩ : ByteArray).size = 8 := by rw [ba_size]; simp [cs, X8]
    unfold sv at H6 H8
    obtain ⟨s6, hs6⟩ : ∃ s : ByteArray, (⟨(cs (bitsL 6 r.toNat)).toArray⟩ : ByteArray) = s := ⟨_, rfl⟩
    obtain ⟨s8, hs8⟩ : ∃ s : ByteArray, (⟨(cs (bitsL 8 (l % 256).toNat)).toArray⟩ : ByteArray) = s := ⟨_, rfl⟩
    rw [hs6] at H6 HE z6
    rw [hs8] at H8 HE z8
    have za : ((⟨#[48, 48, 48, 48, 48, 49]⟩ : ByteArray) ++ s6).size = 12 := by rw [ByteArray.size_append, z6]; rfl
    have HEH := Lib.hid HE
    clear X6 X8 hs6 hs8 HE
    clear hr hp er el2 hT
    go_enter Tryz.func71, Tryz.ntmps71
    go_wp2_with (go_at_call 69; refine (HP.out _).mono ?_; rintro e w1 ⟨rfl, hB1⟩; have P1 := Lib.hid (P0.out.below hB1); clear hB1)
    have P2 := Lib.hid P1.out.drew
    have k0 := P2.out.c0
    have k1 := P2.out.c1
    clear P0 P1
    go_region_with (first
      | (go_at_call_of 94 (Value.int IntKind.i64 6); refine (H6.out _ P2.out.t).mono ?_; rintro e w2 ⟨rfl, h2⟩; have P2 := Lib.hid (P2.out.below h2); have k0 := P2.out.c0; have k1 := P2.out.c1; clear h2)
      | (go_at_call_of 94 (Value.int IntKind.i64 8); refine (H8.out _ P2.out.t).mono ?_; rintro e w3 ⟨rfl, h3⟩; have P2 := Lib.hid (P2.out.below h3); have k0 := P2.out.c0; have k1 := P2.out.c1; clear h3))
    all_goals (go_wp2_with fail; go_ret2; exact ⟨by rw [← HEH.out]; rfl, P2.out.bel⟩)
  · rw [if_neg hp, if_neg hp]
    rw [Bool.eq_false_iff.2 hp] at HP
    have B0 := Lib.hid (show Below w.heap.size w (w.alloc (Obj.cells #[.int .i64 r, .int .i64 l] 69)) from (Below.refl w.heap.size w).alloc (Nat.le_refl _) _)
    unfold prV at HP ⊢
    clear hp
    go_enter Tryz.func71, Tryz.ntmps71
    go_wp2_with (go_at_call 69; refine (HP.out _).mono ?_; rintro e w1 ⟨rfl, hB1⟩; have B1 := Lib.hid (chain B0.out hB1); clear hB1)
    go_ret2
    exact ⟨rfl, B1.out⟩
theorem End_any (w : World) : Calls Tryz.prog 47 #[] w fun e w' => e = .returned (sv (cs [true, false])) ∧ w = w' := by
  go_enter Tryz.func47, Tryz.ntmps47
  go_wp2_with fail
  go_ret
  exact ⟨rfl, rfl⟩
end
end Cf
end Go.Proofs.YtpibeocngkjolaaGreatDoor
