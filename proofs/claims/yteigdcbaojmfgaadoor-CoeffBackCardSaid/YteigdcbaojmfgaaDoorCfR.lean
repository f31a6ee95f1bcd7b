/- coeff.Put, coeff.Short. -/
import Derived.Test.YteigdcbaojmfgaaDoorCfQ
namespace Go.Proofs.YteigdcbaojmfgaaDoor
open Go.RowKit
set_option linter.unusedSimpArgs false
set_option linter.unusedVariables false
namespace Cf
section
set_option maxRecDepth 100000
set_option maxHeartbeats 4000000
set_option linter.unusedVariables false
theorem tab_codes : ∀ first, ∀ e ∈ tab first, e.code.length ≤ 13 ∧ 1 ≤ e.code.length ∧ 1 ≤ e.lvl ∧ e.lvl ≤ 15 ∧ e.run ≤ 26 := by decide +kernel
theorem shortL_len (first : Bool) (r l : Int) : (shortL first r l).length ≤ 13 := by
  have h := tab_codes first
  unfold shortL
  generalize tab first = T at h ⊢
  unfold shortX
  cases hf : T.find? (isE r l) with
  | none => simp
  | some e =>
    have := h e (List.mem_of_find?_eq_some hf)
    simp [cs]
    omega
theorem Short_any (r l : Int) (w : World) (hT : Tabs w) : Calls Tryd.prog 21 #[prV r l] w fun e w' => e = .returned (.bool (shortL false r l != [])) ∧ Below w.heap.size w w' := by
  have HS := Lib.hid (fun W h => short_any r l false W h)
  have P0 := Lib.hid (PK.new r l hT)
  have hn := shortL_len false r l
  generalize shortL false r l = x at HS hn ⊢
  unfold prV sv at HS
  unfold prV
  clear hT
  by_cases hx : x = []
  · subst hx
    go_enter Tryd.func21, Tryd.ntmps21
    go_wp2_with (go_at_call 38; refine (HS.out _ P0.out.t).mono ?_; rintro e w1 ⟨rfl, hB⟩; have P1 := Lib.hid (P0.out.below hB); clear hB)
    go_ret
    exact ⟨rfl, P1.out.bel⟩
  · have he : (⟨x.toArray⟩ : ByteArray).toList.isEmpty = false := by rw [ByteArray.toList_mk]; cases x with | nil => exact absurd rfl hx | cons _ _ => rfl
    have HX := Lib.hid hx
    obtain ⟨S, hS⟩ : ∃ S : ByteArray, (⟨x.toArray⟩ : ByteArray) = S := ⟨_, rfl⟩
    rw [hS] at HS he
    clear hx hn hS
    go_enter Tryd.func21, Tryd.ntmps21
    go_wp2_with (go_at_call 38; refine (HS.out _ P0.out.t).mono ?_; rintro e w1 ⟨rfl, hB⟩; have P1 := Lib.hid (P0.out.below hB); clear hB)
    go_ret
    exact ⟨by simp [HX.out, he], P1.out.bel⟩
def putL (first : Bool) (r l : Int) : List UInt8 := if shortL first r l = [] then cs (escL r l) else shortL first r l ++ [if l < 0 then 49 else 48]
theorem Put_any (r l : Int) (first : Bool) (w : World) (hT : Tabs w) :
    Calls Tryd.prog 15 #[prV r l, .bool first] w fun e w' => e = .returned (.tuple #[if pairB r l then sv (putL first r l) else sv [], .int .i64 (if pairB r l then 0 else 3)]) ∧ Below w.heap.size w w' := by
  have HP := Lib.hid (fun W => pair_any r l W)
  have HS := Lib.hid (fun W h => short_any r l first W h)
  have HE := Lib.hid (fun W h => Escape_any r l W h)
  have P0 := Lib.hid (PK.new r l hT)
  have hn := shortL_len first r l
  unfold putL
  generalize shortL first r l = x at HS hn ⊢
  unfold prV at *
  clear hT
  by_cases hp : pairB r l
  · rw [if_pos hp] at HE
    rw [if_pos hp] at HE ⊢
    rw [if_pos hp]
    rw [hp] at HP
    by_cases hx : x = []
    · subst hx
      rw [if_pos rfl]
      clear hp hn
      unfold sv at HS HE ⊢
      go_enter Tryd.func15, Tryd.ntmps15
      go_wp2_with (first
        | (go_at_call 37; refine (HP.out _).mono ?_; rintro e w1 ⟨rfl, hB⟩; have P1 := Lib.hid (P0.out.below hB); have k0 := P1.out.c0; have k1 := P1.out.c1; clear hB)
        | (go_at_call 38; refine (HS.out _ P1.out.t).mono ?_; rintro e w2 ⟨rfl, hB⟩; have P2 := Lib.hid (P1.out.below hB); have k0 := P2.out.c0; have k1 := P2.out.c1; clear hB)
        | (go_at_call 16; refine (HE.out _ P2.out.t).mono ?_; rintro e w3 ⟨rfl, hB⟩; have P3 := Lib.hid (P2.out.below hB); clear hB))
      go_ret2
      exact ⟨rfl, P3.out.bel⟩
    · rw [if_neg hx]
      have he : (⟨x.toArray⟩ : ByteArray).toList.isEmpty = false := by rw [ByteArray.toList_mk]; cases x with | nil => exact absurd rfl hx | cons _ _ => rfl
      have hz := ba_size x
      have HC0 := Lib.hid (show (⟨x.toArray⟩ : ByteArray) ++ ⟨#[48]⟩ = ⟨(x ++ [48]).toArray⟩ by apply ByteArray.ext; simp)
      have HC1 := Lib.hid (show (⟨x.toArray⟩ : ByteArray) ++ ⟨#[49]⟩ = ⟨(x ++ [49]).toArray⟩ by apply ByteArray.ext; simp)
      unfold sv at HS HE ⊢
      obtain ⟨S, hS⟩ : ∃ S : ByteArray, (⟨x.toArray⟩ : ByteArray) = S := ⟨_, rfl⟩
      rw [hS] at HS he hz HC0 HC1
      have hz2 : S.size ≤ 13 := by omega
      clear hp hn hx hS hz
      by_cases h0 : l < 0
      · rw [if_pos h0]
        go_enter Tryd.func15, Tryd.ntmps15
        go_wp2_with (first
          | (go_at_call 37; refine (HP.out _).mono ?_; rintro e w1 ⟨rfl, hB⟩; have P1 := Lib.hid (P0.out.below hB); have k0 := P1.out.c0; have k1 := P1.out.c1; clear hB)
          | (go_at_call 38; refine (HS.out _ P1.out.t).mono ?_; rintro e w2 ⟨rfl, hB⟩; have P2 := Lib.hid (P1.out.below hB); have k0 := P2.out.c0; have k1 := P2.out.c1; clear hB))
        go_ret2
        exact ⟨by rw [← HC1.out]; rfl, P2.out.bel⟩
      · rw [if_neg h0]
        go_enter Tryd.func15, Tryd.ntmps15
        go_wp2_with (first
          | (go_at_call 37; refine (HP.out _).mono ?_; rintro e w1 ⟨rfl, hB⟩; have P1 := Lib.hid (P0.out.below hB); have k0 := P1.out.c0; have k1 := P1.out.c1; clear hB)
          | (go_at_call 38; refine (HS.out _ P1.out.t).mono ?_; rintro e w2 ⟨rfl, hB⟩; have P2 := Lib.hid (P1.out.below hB); have k0 := P2.out.c0; have k1 := P2.out.c1; clear hB))
        go_ret2
        exact ⟨by rw [← HC0.out]; rfl, P2.out.bel⟩
  · rw [if_neg hp, if_neg hp]
    rw [Bool.eq_false_iff.2 hp] at HP
    clear hp hn
    unfold sv at *
    go_enter Tryd.func15, Tryd.ntmps15
    go_wp2_with (go_at_call 37; refine (HP.out _).mono ?_; rintro e w1 ⟨rfl, hB⟩; have P1 := Lib.hid (P0.out.below hB); clear hB)
    go_ret2
    exact ⟨rfl, P1.out.bel⟩
end
end Cf
end Go.Proofs.YteigdcbaojmfgaaDoor
