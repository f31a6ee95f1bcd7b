/- The document's trees of codes: Get. -/
import Derived.Test.YteigdcbaojmfgaaDoorChN
import Derived.Test.YteigdcbaojmfgaaDoorChD
import Derived.Test.YteigdcbaojmfgaaDoorCfC
namespace Go.Proofs.YteigdcbaojmfgaaDoor
open Go.RowKit
set_option linter.unusedSimpArgs false
set_option linter.unusedVariables false
namespace Cf
/-- what a tree tells of bits. -/
def tGet (n : Nat) (C : Nat → List Bool) (f : Nat → Int) (x : List UInt8) : Int × Int × Int :=
  match (List.range n).find? (fun i => begB x (cs (C i))) with
  | some i => (f i, ((C i).length : Int), 0)
  | none => (0, 0, if (List.range n).any (fun i => begB (cs (C i)) x) then 5 else 7)
theorem range_find {n k : Nat} {m : Nat → Bool} (hk : k < n) (hn : ∀ j, j < k → m j = false) (hm : m k = true) : (List.range n).find? m = some k := by
  rw [List.find?_eq_some_iff_getElem]
  refine ⟨hm, k, by simpa using hk, by simp, fun j hj => by simp [hn j hj]⟩
theorem range_none {n : Nat} {m : Nat → Bool} (hn : ∀ j, j < n → m j = false) : (List.range n).find? m = none := by
  rw [List.find?_eq_none]
  intro x hx
  rw [hn x (List.mem_range.1 hx)]
  simp
theorem range_any {n k : Nat} {m : Nat → Bool} (hk : k < n) (hm : m k = true) : (List.range n).any m = true := List.any_eq_true.2 ⟨k, List.mem_range.2 hk, hm⟩
theorem range_not {n : Nat} {m : Nat → Bool} (hn : ∀ j, j < n → m j = false) : (List.range n).any m = false := by
  rw [List.any_eq_false]
  intro x hx
  rw [hn x (List.mem_range.1 hx)]
  simp
def seen24 (F : Nat → Int) (N : Nat) (p : Int) : List Bool := if 8 * (N : Int) < p then [] else seenL F p.toNat (min 24 (8 * N - p.toNat))
def TGot (w : World) (r : Int × Int × Int) (e : Ending) (w' : World) : Prop := e = .returned (.tuple #[.int .i64 r.1, .int .i64 r.2.1, .int .i64 r.2.2]) ∧ Below w.heap.size w w'
section
set_option maxRecDepth 100000
set_option maxHeartbeats 4000000
set_option linter.unusedVariables false
theorem TGet_low (t : Nat) (v : Value) (p : Int) (w : World) (hp : p < 0) : Calls Tryd.prog 54 #[.pointer (some ⟨t, 0, none⟩), v, .int .i64 p] w (TGot w (0, 0, 3)) := by
  go_enter Tryd.func54, Tryd.ntmps54
  go_wp2_with fail
  go_ret3
  exact ⟨rfl, Below.refl _ _⟩
theorem TGet_at (B t n : Nat) (C : Nat → List Bool) (f : Nat → Int) (v : Value) (N : Nat) (F : Nat → Int) (q : Nat) (w : World) (hn : n ≤ 300) (hN : N ≤ 1000000) (hT : Tr B w t n C f) (hs : Sl .u8 w v N F) (hb : ∀ j, j < N → 0 ≤ F j ∧ F j ≤ 255) (hq : q ≤ 9223372036854775807) (hC : ∀ i, i < n → (C i).length ≤ 24) :
    Calls Tryd.prog 54 #[.pointer (some ⟨t, 0, none⟩), v, .int .i64 (q : Int)] w (TGot w (tGet n C f (cs (seenL F q (min 24 (8 * N - q)))))) := by
  have HR := Lib.hid (fun (k : Nat) (W : World) (hW : Below w.heap.size w W) (h : q + k + 1 ≤ 8 * N) => rRead_ok v N F (q + k) 1 W hN (hs.below hW) hb (by decide) h)
  have HTR := Lib.hid hT
  have HCL := Lib.hid hC
  have q0 : (0 : Int) ≤ (q : Int) := by omega
  obtain ⟨a, c, rfl, _, _, _⟩ := hs
  have HC := Lib.hid (fun V => rCount_any a N c V hN)
  obtain ⟨M, hM⟩ : ∃ M, min 24 (8 * N - q) = M := ⟨_, rfl⟩
  have hM2 : M ≤ 24 ∧ (M ≠ 0 → q + M ≤ 8 * N) ∧ (M < 24 → 8 * N ≤ q + M) := by omega
  rw [hM]
  clear hb hT hC hM
  go_enter Tryd.func54, Tryd.ntmps54
  go_wp2_with fail
  go_loopw [9] (fun s wr => ∃ k : Nat, k ≤ M ∧ Hid (s = sv (cs (seenL F q k))) ∧ Hid (Below w.heap.size w wr)) (fun s _ => M - (match s with | .string S => S.size | _ => 0))
  case atStart => exact ⟨0, by omega, Lib.hid rfl, Lib.hid (Below.refl _ _)⟩
  case round =>
    obtain ⟨k, hk, HS, HB⟩ := hrel
    have hse := HS.out
    have hse2 : ∃ S : ByteArray, sv (cs (seenL F q k)) = .string S ∧ S.size = k ∧ S = ⟨(cs (seenL F q k)).toArray⟩ := ⟨_, rfl, by rw [ba_size, cs_len]; simp [seenL], rfl⟩
    obtain ⟨S, hS, hz, hSS⟩ := hse2
    rw [hS] at hse
    have HSS := Lib.hid hSS
    have HS3 := Lib.hid hS
    clear hS hSS HS
    subst hse
    by_cases hkM : k < M
    · have q1 : (q : Int) ≤ 8000000 := by omega
      have t1 : (q : Int) + (k : Int) < 8 * (N : Int) := by omega
      have t2 : (k : Int) < 24 := by omega
      have CALL := HR.out k wr HB.out (by omega)
      rw [Int.natCast_add] at CALL
      have erd : rdV F (q + k) 1 = bitI F (q + k) := by simp [rdV]
      rw [erd] at CALL
      have h01 := bitI_01 F (q + k)
      obtain ⟨y, hy⟩ : ∃ y : Nat, bitI F (q + k) = (y : Int) := ⟨(bitI F (q + k)).toNat, by omega⟩
      have HYB := Lib.hid (show (bitI F (q + k) == 1) = (y == 1) by rw [hy]; rcases h01 with h | h <;> rw [hy] at h <;> (have : y = 0 ∨ y = 1 := by omega) <;> rcases this with rfl | rfl <;> rfl)
      rw [hy] at CALL h01
      have h01n : y = 0 ∨ y = 1 := by omega
      have HCALL := Lib.hid CALL
      have one := fun V => one_new V (48 + (y : Int)) _ (bch_nat y h01n)
      obtain ⟨T, hT⟩ : ∃ T : ByteArray, (⟨#[bch (y == 1)]⟩ : ByteArray) = T := ⟨_, rfl⟩
      have hTz : T.size = 1 := by rw [← hT]; rfl
      have HTT := Lib.hid hT
      rw [hT] at one
      have tz : (S ++ T).size = k + 1 := by rw [ByteArray.size_append]; omega
      have HB1 := Lib.hid (HB.out.alloc HB.out.size (.cells #[.int .u8 (48 + (y : Int))] 5))
      have HNX : Hid (Value.string (S ++ T) = sv (cs (seenL F q (k + 1)))) := Lib.hid (by
        rw [HSS.out, ← HTT.out, seenL_snoc, HYB.out]
        unfold sv
        congr 1
        apply ByteArray.ext
        simp [cs])
      have y0 : 0 ≤ 48 + (y : Int) := by omega
      have y1 : 48 + (y : Int) < 256 := by omega
      clear CALL erd hy h01 hT h01n hk
      go_wp2_with (first
        | (go_at_call 55; refine (HC.out _).mono ?_; rintro e w1 ⟨rfl, rfl⟩)
        | (go_at_call 34; refine HCALL.out.mono ?_; rintro e w1 ⟨rfl, rfl⟩))
      go_roundw
      case rel => exact ⟨k + 1, by omega, HNX, HB1⟩
      case measure => simp; omega
    · obtain rfl : k = M := by omega
      obtain ⟨x, hx⟩ : ∃ x, cs (seenL F q k) = x := ⟨_, rfl⟩
      rw [hx] at HS3
      have HXX := Lib.hid hx
      have HTW := Lib.hid (HTR.out.below (HB.out.mono (Nat.le_refl _)))
      obtain ⟨ga, ca, gb, cb, k0, k1, K2, K3, l1, l2⟩ := HTW.out.ex
      have HK2 := Lib.hid K2
      have HK3 := Lib.hid K3
      have hlast : (k = 24 ∧ (q : Int) + (k : Int) < 8 * (N : Int)) ∨ ¬ (q : Int) + (k : Int) < 8 * (N : Int) := by omega
      have q2 : (q : Int) ≤ 9223372036854775807 := by omega
      have HBF := Lib.hid HB.out
      have kb : (k : Int) ≤ 24 := by omega
      have hw : wrap64 ((q : Int) + (k : Int)) = (q : Int) + (k : Int) := w64 (by omega)
      clear K2 K3 hkM hk hx l1 l2 HSS hM2 HB HR
      have k24 : ∀ h : k = 24, ¬ (k : Int) < 24 := fun h => by omega
      rcases hlast with ⟨hk24, t1⟩ | t1
      all_goals
        first | (have t2 := k24 hk24; clear hk24 k24) | (have t2 := decide_eq_false t1; clear k24)
        go_wp2_with (go_at_call 55; refine (HC.out _).mono ?_; rintro e w1 ⟨rfl, rfl⟩)
        go_loop [12] (fun i => ∃ j : Nat, j ≤ n ∧ i = .int .i64 j ∧ Hid (∀ m, m < j → begB x (cs (C m)) = false)) (fun i => n - (intOf i).toNat)
        case atStart => exact ⟨0, by omega, rfl, Lib.hid (fun m h => by omega)⟩
        case round =>
          obtain ⟨j, hj, rfl, HNO⟩ := hrel
          by_cases hjn : j < n
          · have t3 : (j : Int) < (n : Int) := by omega
            have t4 : (0 : Int) ≤ (j : Int) := by omega
            have c0 := HK2.out j hjn
            have BG := Lib.hid (fun V => begins_any x (cs (C j)) V)
            obtain ⟨S2, hS2⟩ : ∃ S : ByteArray, sv (cs (C j)) = .string S := ⟨_, rfl⟩
            rw [hS2] at c0
            rw [HS3.out, hS2] at BG
            have HS2z : Hid (S2.size = (C j).length) := Lib.hid (by
              unfold sv at hS2
              injection hS2 with h
              rw [← h, ba_size, cs_len])
            clear hS2
            by_cases hbg : begB x (cs (C j)) = true
            · rw [hbg] at BG
              have hz2 : S2.size ≤ 24 := by rw [HS2z.out]; exact HCL.out j hjn
              have c1 := HK3.out j hjn
              rw [Nat.zero_add] at c1
              have HRES : Hid (tGet n C f x = (f j, ((C j).length : Int), 0)) := Lib.hid (by unfold tGet; rw [range_find hjn HNO.out hbg])
              have HSZ : Hid (((S2.size : Nat) : Int) = ((C j).length : Int)) := Lib.hid (by rw [HS2z.out])
              obtain ⟨fj, hfj⟩ : ∃ y, f j = y := ⟨_, rfl⟩
              rw [hfj] at c1 HRES
              clear hbg hfj
              go_wp2_with (go_at_call 66; refine (BG.out _).mono ?_; rintro e w1 ⟨rfl, rfl⟩)
              go_quiet (fail)
              go_wp2_with fail
              go_ret3
              exact ⟨by rw [HXX.out, HRES.out, ← HSZ.out]; rfl, below_drewN HBF.out _⟩
            · rw [Bool.eq_false_iff.2 hbg] at BG
              have HN2 : Hid (∀ m, m < j + 1 → begB x (cs (C m)) = false) := Lib.hid (fun m hm => by
                by_cases h : m < j
                · exact HNO.out m h
                · obtain rfl : m = j := by omega
                  exact Bool.eq_false_iff.2 hbg)
              clear hbg
              go_wp2_with (go_at_call 66; refine (BG.out _).mono ?_; rintro e w1 ⟨rfl, rfl⟩)
              go_round
              case rel => exact ⟨j + 1, by omega, by go_num, HN2⟩
              case measure => simp [intOf]; omega
          · obtain rfl : j = n := by omega
            have t3 : ¬ (j : Int) < (j : Int) := by omega
            go_wp2_with fail
            go_loop [13] (fun i => ∃ j2 : Nat, j2 ≤ j ∧ i = .int .i64 j2 ∧ Hid (∀ m, m < j2 → begB (cs (C m)) x = false)) (fun i => j - (intOf i).toNat)
            case atStart => exact ⟨0, by omega, rfl, Lib.hid (fun m h => by omega)⟩
            case round =>
              obtain ⟨j2, hj2, rfl, HNO2⟩ := hrel
              by_cases hjn2 : j2 < j
              · have t5 : (j2 : Int) < (j : Int) := by omega
                have t4 : (0 : Int) ≤ (j2 : Int) := by omega
                have c0 := HK2.out j2 hjn2
                have BG := Lib.hid (fun V => begins_any (cs (C j2)) x V)
                obtain ⟨S2, hS2⟩ : ∃ S : ByteArray, sv (cs (C j2)) = .string S := ⟨_, rfl⟩
                rw [hS2] at c0
                rw [HS3.out, hS2] at BG
                clear hS2
                by_cases hbg : begB (cs (C j2)) x = true
                · rw [hbg] at BG
                  have HRES : Hid (tGet j C f x = (0, 0, 5)) := Lib.hid (by unfold tGet; rw [range_none HNO.out, range_any hjn2 hbg]; rfl)
                  clear hbg
                  go_wp2_with (go_at_call 66; refine (BG.out _).mono ?_; rintro e w1 ⟨rfl, rfl⟩)
                  go_ret3
                  exact ⟨by rw [HXX.out, HRES.out]; rfl, HBF.out⟩
                · rw [Bool.eq_false_iff.2 hbg] at BG
                  have HN2 : Hid (∀ m, m < j2 + 1 → begB (cs (C m)) x = false) := Lib.hid (fun m hm => by
                    by_cases h : m < j2
                    · exact HNO2.out m h
                    · obtain rfl : m = j2 := by omega
                      exact Bool.eq_false_iff.2 hbg)
                  clear hbg
                  go_wp2_with (go_at_call 66; refine (BG.out _).mono ?_; rintro e w1 ⟨rfl, rfl⟩)
                  go_round
                  case rel => exact ⟨j2 + 1, by omega, by go_num, HN2⟩
                  case measure => simp [intOf]; omega
              · obtain rfl : j2 = j := by omega
                have t5 : ¬ (j2 : Int) < (j2 : Int) := by omega
                have HRES : Hid (tGet j2 C f x = (0, 0, 7)) := Lib.hid (by unfold tGet; rw [range_none HNO.out, range_not HNO2.out]; rfl)
                go_wp2_with fail
                go_ret3
                exact ⟨by rw [HXX.out, HRES.out]; rfl, HBF.out⟩
end
end Cf
end Go.Proofs.YteigdcbaojmfgaaDoor
