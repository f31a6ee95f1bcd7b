/- The document's Pair, bits, Escape. -/
import Derived.Test.YteigdcbaojmfgaaDoorChC
namespace Go.Proofs.YteigdcbaojmfgaaDoor
open Go.RowKit
set_option linter.unusedSimpArgs false
set_option linter.unusedVariables false
namespace Cf
section
set_option maxRecDepth 100000
set_option maxHeartbeats 4000000
set_option linter.unusedVariables false
theorem rPair_any (r l : Int) (w : World) : Calls Tryd.prog 42 #[prV r l] w fun e w' => e = .returned (.bool (pairB r l)) ∧ Below w.heap.size w w' := by
  unfold prV pairB
  go_enter Tryd.func42, Tryd.ntmps42
  have B1 : ∀ {v : Obj}, Below w.heap.size w (w.alloc v) := fun {v} => (Below.refl w.heap.size w).alloc (Nat.le_refl _) v
  by_cases h1 : 0 ≤ r
  · by_cases h2 : r ≤ 63
    · by_cases h3 : -127 ≤ l
      · by_cases h4 : l ≤ 127
        · by_cases h5 : l = 0
          · subst h5
            go_wp2_with fail
            go_ret
            exact ⟨by simp, B1⟩
          · go_wp2_with fail
            go_ret
            exact ⟨by simp [*] <;> omega, B1⟩
        · go_wp2_with fail
          go_ret
          exact ⟨by simp [*] <;> omega, B1⟩
      · go_wp2_with fail
        go_ret
        exact ⟨by simp [*] <;> omega, B1⟩
    · go_wp2_with fail
      go_ret
      exact ⟨by simp [*] <;> omega, B1⟩
  · go_wp2_with fail
    go_ret
    exact ⟨by simp [*] <;> omega, B1⟩
theorem bitsL_cons : ∀ k n, bitsL (k + 1) n = ((n / 2 ^ k) % 2 == 1) :: bitsL k n
  | 0, n => by simp [bitsL]
  | k + 1, n => by
    rw [bitsL, bitsL_cons k (n / 2)]
    conv => rhs; rw [bitsL]
    rw [Nat.div_div_eq_div_mul, Nat.pow_succ, Nat.mul_comm 2]
    rfl
theorem one_new (w : World) (x : Int) (c : UInt8) (h : x = c.toNat) : (convert 22 9 (.slice (some ⟨w.heap.size, 0, none⟩) 1 1)).run Tryd.prog (w.alloc (.cells #[.int .u8 x] 5)) = .ok (.string ⟨#[c]⟩) (w.alloc (.cells #[.int .u8 x] 5)) := by
  subst h
  have A : Arr (w.alloc (.cells #[.int .u8 (c.toNat : Int)] 5)) .u8 w.heap.size 1 (fun _ => (c.toNat : Int)) := Arr.new w .u8 _ _ 1 _ (by
    intro i hi
    obtain rfl : i = 0 := by omega
    rfl)
  rw [run_str (f := fun _ => (c.toNat : Int)) Tryd.underlying22 Tryd.underlying5 Tryd.underlying9 A.ints 1]
  have e : strOf 1 (fun _ => (c.toNat : Int)) = ⟨#[c]⟩ := by simp [strOf]; rfl
  rw [e]
theorem bch_nat (y : Nat) (h : y = 0 ∨ y = 1) : (48 + (y : Int)) = (bch (y == 1)).toNat := by rcases h with rfl | rfl <;> rfl
theorem rbits_any (n many : Nat) (w : World) (hn : n < 1000000) (hm : many ≤ 8) : Calls Tryd.prog 44 #[.int .i64 n, .int .i64 many] w fun e w' => e = .returned (sv (cs (bitsL many n))) ∧ Below w.heap.size w w' := by
  go_enter Tryd.func44, Tryd.ntmps44
  go_wp2_with fail
  go_loopw [0, 5, 6] (fun m s i wr => ∃ k q : Nat, k ≤ many ∧ i = .int .i64 k ∧ m = .int .i64 q ∧ q < 1000000 ∧ Hid (q = n / 2 ^ k) ∧ Hid (s = sv (cs (bitsL k n))) ∧ Hid (Below w.heap.size w wr)) (fun _ _ i _ => many - (intOf i).toNat)
  case atStart => exact ⟨0, n, by omega, rfl, rfl, hn, Lib.hid (by simp), Lib.hid (by rfl), Lib.hid (Below.refl _ _)⟩
  case round =>
    obtain ⟨k, q, hk, rfl, rfl, hq, HQ, HS, HB⟩ := hrel
    have hs := HS.out
    subst hs
    by_cases hkm : k < many
    · have t1 : (k : Int) < (many : Int) := by omega
      have hq2 : q % 2 = 0 ∨ q % 2 = 1 := by omega
      have hl := bitsL_len k n
      have HC := Lib.hid (bitsL_cons k n)
      obtain ⟨s, hss⟩ : ∃ s : ByteArray, (⟨(cs (bitsL k n)).toArray⟩ : ByteArray) = s := ⟨_, rfl⟩
      have hz : s.size = k := by rw [← hss, ba_size]; simp [cs, hl]
      unfold sv
      rw [hss]
      have HSS := Lib.hid hss
      obtain ⟨y, hy⟩ : ∃ y : Nat, q % 2 = y := ⟨_, rfl⟩
      have hym : Int.tmod (q : Int) 2 = (y : Int) := by rw [Int.tmod_eq_emod_of_nonneg (by omega)]; omega
      have hyd : Int.tdiv (q : Int) 2 = ((q / 2 : Nat) : Int) := by rw [Int.tdiv_eq_ediv_of_nonneg (by omega)]; rfl
      rw [hy] at hq2
      have HY := Lib.hid hy
      clear hl hss hy
      have h1n := one_new wr (48 + (y : Int)) _ (bch_nat y hq2)
      have HB1 := Lib.hid (HB.out.alloc HB.out.size (.cells #[.int .u8 (48 + (y : Int))] 5))
      have HR : Hid (Value.string (⟨#[bch (y == 1)]⟩ ++ s) = sv (cs (bitsL (k + 1) n))) := Lib.hid (by
        rw [HC.out, ← HSS.out, ← HY.out, HQ.out]
        unfold sv
        congr 1)
      obtain ⟨T, hT⟩ : ∃ T : ByteArray, (⟨#[bch (y == 1)]⟩ : ByteArray) = T := ⟨_, rfl⟩
      have hTz : T.size = 1 := by rw [← hT]; rfl
      rw [hT] at h1n HR
      have tz : (T ++ s).size = k + 1 := by rw [ByteArray.size_append]; omega
      have HQ1 : Hid (q / 2 = n / 2 ^ (k + 1)) := Lib.hid (by rw [HQ.out, Nat.div_div_eq_div_mul, Nat.pow_succ])
      obtain ⟨q', hq'⟩ : ∃ q', q / 2 = q' := ⟨_, rfl⟩
      have hq'' : q' < 1000000 := by omega
      rw [hq'] at hyd HQ1
      clear hT hq'
      go_wp2_with fail
      go_roundw
      case rel => exact ⟨k + 1, q', by omega, by go_num, rfl, hq'', HQ1, HR, HB1⟩
      case measure => simp [intOf]; omega
    · obtain rfl : k = many := by omega
      have t1 : ¬ (k : Int) < (k : Int) := by omega
      go_wp2_with fail
      go_ret
      exact ⟨rfl, HB.out⟩
theorem rEscape_any (r l : Int) (w : World) (hT : Tabs w) :
    Calls Tryd.prog 20 #[prV r l] w fun e w' => e = .returned (.tuple #[if pairB r l then sv (cs (escL r l)) else sv [], .int .i64 (if pairB r l then 0 else 3)]) ∧ Below w.heap.size w w' := by
  have HP := Lib.hid (fun W => rPair_any r l W)
  by_cases hp : pairB r l
  · rw [if_pos hp, if_pos hp]
    rw [hp] at HP
    have hr : 0 ≤ r ∧ r ≤ 63 ∧ -127 ≤ l ∧ l ≤ 127 ∧ l ≠ 0 := by simpa [pairB] using hp
    have H6 := Lib.hid (fun W => rbits_any r.toNat 6 W (by omega) (by omega))
    have H8 := Lib.hid (fun W => rbits_any (l % 256).toNat 8 W (by omega) (by omega))
    have el : Int.tmod (l + 256) 256 = l % 256 := by rw [Int.tmod_eq_emod_of_nonneg (by omega)]; omega
    have el3 : IntKind.i64.wrap (l + 256) = l + 256 := IntWalk.i64_in _ (by omega)
    have er : ((r.toNat : Nat) : Int) = r := by omega
    have el2 : (((l % 256).toNat : Nat) : Int) = l % 256 := by omega
    rw [er] at H6
    rw [el2] at H8
    unfold prV at HP ⊢
    unfold sv
    have P0 := Lib.hid (PK.new r l hT)
    have X6 := bitsL_len 6 r.toNat
    have X8 := bitsL_len 8 (l % 256).toNat
    have HE : (⟨#[48, 48, 48, 48, 48, 49]⟩ : ByteArray) ++ ⟨(cs (bitsL 6 r.toNat)).toArray⟩ ++ ⟨(cs (bitsL 8 (l % 256).toNat)).toArray⟩ = ⟨(cs (escL r l)).toArray⟩ := by
      apply ByteArray.ext
      simp [escL, cs, bch]
    have z6 : (⟨(cs (bitsL 6 r.toNat)).toArray⟩ : ByteArray).size = 6 := by rw [ba_size]; simp [cs, X6]
    have z8 : (⟨(cs (bitsL 8 (l % 256).toNat)).toArray⟩ : ByteArray).size = 8 := by rw [ba_size]; simp [cs, X8]
    unfold sv at H6 H8
    obtain ⟨s6, hs6⟩ : ∃ s : ByteArray, (⟨(cs (bitsL 6 r.toNat)).toArray⟩ : ByteArray) = s := ⟨_, rfl⟩
    obtain ⟨s8, hs8⟩ : ∃ s : ByteArray, (⟨(cs (bitsL 8 (l % 256).toNat)).toArray⟩ : ByteArray) = s := ⟨_, rfl⟩
    rw [hs6] at H6 HE z6
    rw [hs8] at H8 HE z8
    have za : ((⟨#[48, 48, 48, 48, 48, 49]⟩ : ByteArray) ++ s6).size = 12 := by rw [ByteArray.size_append, z6]; rfl
    have HEH := Lib.hid HE
    have b1 : -127 ≤ l := hr.2.2.1
    have b2 : l ≤ 127 := hr.2.2.2.1
    have ew : IntKind.i64.wrap (l % 256) = l % 256 := IntWalk.i64_in _ (by omega)
    clear X6 X8 hs6 hs8 HE
    clear hr hp er el2 hT
    go_enter Tryd.func20, Tryd.ntmps20
    go_wp2_with (go_at_call 42; refine (HP.out _).mono ?_; rintro e w1 ⟨rfl, hB1⟩; have P1 := Lib.hid (P0.out.below hB1); clear hB1)
    have P2 := Lib.hid P1.out.drew
    have k0 := P2.out.c0
    have k1 := P2.out.c1
    clear P0 P1
    go_region_with (first
      | (go_at_call_of 44 (Value.int IntKind.i64 6); refine (H6.out _).mono ?_; rintro e w2 ⟨rfl, h2⟩; have P2 := Lib.hid (P2.out.below h2); have k0 := P2.out.c0; have k1 := P2.out.c1; clear h2)
      | (go_at_call_of 44 (Value.int IntKind.i64 8); refine (H8.out _).mono ?_; rintro e w3 ⟨rfl, h3⟩; have P2 := Lib.hid (P2.out.below h3); have k0 := P2.out.c0; have k1 := P2.out.c1; clear h3))
    all_goals (go_wp2_with fail; go_ret2; exact ⟨by rw [← HEH.out]; rfl, P2.out.bel⟩)
  · rw [if_neg hp, if_neg hp]
    rw [Bool.eq_false_iff.2 hp] at HP
    have B0 := Lib.hid (show Below w.heap.size w (w.alloc (Obj.cells #[.int .i64 r, .int .i64 l] 26)) from (Below.refl w.heap.size w).alloc (Nat.le_refl _) _)
    unfold prV at HP ⊢
    clear hp
    go_enter Tryd.func20, Tryd.ntmps20
    go_wp2_with (go_at_call 42; refine (HP.out _).mono ?_; rintro e w1 ⟨rfl, hB1⟩; have B1 := Lib.hid (chain B0.out hB1); clear hB1)
    go_ret2
    exact ⟨rfl, B1.out⟩
end
end Cf
end Go.Proofs.YteigdcbaojmfgaaDoor
