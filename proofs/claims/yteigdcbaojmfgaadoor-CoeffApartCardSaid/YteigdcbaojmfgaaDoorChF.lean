/- The document's Put. -/
import Derived.Test.YteigdcbaojmfgaaDoorChE
namespace Go.Proofs.YteigdcbaojmfgaaDoor
open Go.RowKit
set_option linter.unusedSimpArgs false
set_option linter.unusedVariables false
namespace Cf
def fixE (e : Ent) : Ent := ⟨e.run, e.lvl, if e.code = [true, true] then [true] else e.code⟩
theorem tab_fix : tab true = (tab false).map fixE := by decide +kernel
def fixL (c : List UInt8) : List UInt8 := if c = [49, 49] then [49] else c
theorem shortL_true (r l : Int) : shortL true r l = fixL (shortL false r l) := by
  unfold shortL shortX
  rw [tab_fix, List.find?_map]
  have e : (isE r l ∘ fixE) = isE r l := by funext x; rfl
  rw [e]
  cases (tab false).find? (isE r l) with
  | none => rfl
  | some x =>
    show cs (fixE x).code = fixL (cs x.code)
    unfold fixE fixL
    by_cases h : x.code = [true, true]
    · simp only [h]; rfl
    · simp only [if_neg h]
      exact (if_neg (fun h2 : cs x.code = [49, 49] => h (cs_inj (b := [true, true]) h2))).symm
section
set_option maxRecDepth 100000
set_option maxHeartbeats 4000000
set_option linter.unusedVariables false
theorem rPut_any (r l : Int) (first : Bool) (w : World) (hT : Tabs w) :
    Calls Tryd.prog 19 #[prV r l, .bool first] w fun e w' => e = .returned (.tuple #[if pairB r l then sv (putL first r l) else sv [], .int .i64 (if pairB r l then 0 else 3)]) ∧ Below w.heap.size w w' := by
  have HP := Lib.hid (fun W => rPair_any r l W)
  have HS := Lib.hid (fun W => rcode_any r l W)
  have HE := Lib.hid (fun W h => rEscape_any r l W h)
  have P0 := Lib.hid (PK.new r l hT)
  have hn := shortL_len false r l
  have e1 : shortL first r l = if first then fixL (shortL false r l) else shortL false r l := by cases first; rfl; exact shortL_true r l
  unfold putL
  rw [e1]
  generalize shortL false r l = x at HS hn ⊢
  unfold prV at *
  clear hT e1
  by_cases hp : pairB r l
  · rw [if_pos hp] at HE
    rw [if_pos hp] at HE ⊢
    rw [if_pos hp]
    rw [hp] at HP
    by_cases hx : x = []
    · subst hx
      have e0 : (if first = true then fixL [] else []) = [] := by cases first <;> rfl
      rw [e0, if_pos rfl]
      clear hp hn e0
      unfold sv at HS HE ⊢
      go_enter Tryd.func19, Tryd.ntmps19
      go_wp2_with (first
        | (go_at_call 42; refine (HP.out _).mono ?_; rintro e w1 ⟨rfl, hB⟩; have P1 := Lib.hid (P0.out.below hB); have k0 := P1.out.c0; have k1 := P1.out.c1; clear hB)
        | (go_at_call 43; refine (HS.out _).mono ?_; rintro e w2 ⟨rfl, hB⟩; have P2 := Lib.hid (P1.out.below hB); have k0 := P2.out.c0; have k1 := P2.out.c1; clear hB)
        | (go_at_call 20; refine (HE.out _ P2.out.t).mono ?_; rintro e w3 ⟨rfl, hB⟩; have P3 := Lib.hid (P2.out.below hB); clear hB))
      go_ret2
      exact ⟨rfl, P3.out.bel⟩
    · have ef : fixL x ≠ [] := by unfold fixL; split <;> simp [hx]
      have e0 : (if (if first = true then fixL x else x) = [] then cs (escL r l) else (if first = true then fixL x else x) ++ [if l < 0 then 49 else 48]) = (if first = true then fixL x else x) ++ [if l < 0 then 49 else 48] := by
        cases first
        · exact if_neg hx
        · exact if_neg ef
      rw [e0]
      have he : (⟨x.toArray⟩ : ByteArray).toList.isEmpty = false := by rw [ByteArray.toList_mk]; cases x with | nil => exact absurd rfl hx | cons _ _ => rfl
      have hz := ba_size x
      have h11 : ((⟨x.toArray⟩ : ByteArray).toList == [49, 49]) = decide (x = [49, 49]) := by rw [ByteArray.toList_mk]; by_cases h : x = [49, 49] <;> simp [h]
      have HC0 := Lib.hid (show (⟨x.toArray⟩ : ByteArray) ++ ⟨#[48]⟩ = ⟨(x ++ [48]).toArray⟩ by apply ByteArray.ext; simp)
      have HC1 := Lib.hid (show (⟨x.toArray⟩ : ByteArray) ++ ⟨#[49]⟩ = ⟨(x ++ [49]).toArray⟩ by apply ByteArray.ext; simp)
      unfold sv at HS HE ⊢
      obtain ⟨S, hS⟩ : ∃ S : ByteArray, (⟨x.toArray⟩ : ByteArray) = S := ⟨_, rfl⟩
      rw [hS] at HS he hz HC0 HC1 h11
      have hz2 : S.size ≤ 13 := by omega
      clear hp hn hx hS hz e0 ef
      have hb : first = true ∧ x = [49, 49] ∨ (first = true ∧ x ≠ [49, 49]) ∨ first = false := by
        by_cases h1 : x = [49, 49]
        · cases first <;> simp [h1]
        · cases first <;> simp [h1]
      rcases hb with ⟨rfl, h1⟩ | ⟨rfl, h1⟩ | rfl
      · have ex : (if true = true then fixL x else x) = [49] := by rw [if_pos rfl, h1]; rfl
        rw [ex]
        rw [decide_eq_true h1] at h11
        clear h1 ex HC0 HC1
        by_cases h0 : l < 0
        · rw [if_pos h0]
          go_enter Tryd.func19, Tryd.ntmps19
          go_wp2_with (first
            | (go_at_call 42; refine (HP.out _).mono ?_; rintro e w1 ⟨rfl, hB⟩; have P1 := Lib.hid (P0.out.below hB); have k0 := P1.out.c0; have k1 := P1.out.c1; clear hB)
            | (go_at_call 43; refine (HS.out _).mono ?_; rintro e w2 ⟨rfl, hB⟩; have P2 := Lib.hid (P1.out.below hB); have k0 := P2.out.c0; have k1 := P2.out.c1; clear hB))
          go_ret2
          exact ⟨rfl, P2.out.bel⟩
        · rw [if_neg h0]
          go_enter Tryd.func19, Tryd.ntmps19
          go_wp2_with (first
            | (go_at_call 42; refine (HP.out _).mono ?_; rintro e w1 ⟨rfl, hB⟩; have P1 := Lib.hid (P0.out.below hB); have k0 := P1.out.c0; have k1 := P1.out.c1; clear hB)
            | (go_at_call 43; refine (HS.out _).mono ?_; rintro e w2 ⟨rfl, hB⟩; have P2 := Lib.hid (P1.out.below hB); have k0 := P2.out.c0; have k1 := P2.out.c1; clear hB))
          go_ret2
          exact ⟨rfl, P2.out.bel⟩
      · have ex : (if true = true then fixL x else x) = x := by rw [if_pos rfl]; exact if_neg h1
        rw [ex]
        rw [decide_eq_false h1] at h11
        clear h1 ex
        by_cases h0 : l < 0
        · rw [if_pos h0]
          go_enter Tryd.func19, Tryd.ntmps19
          go_wp2_with (first
            | (go_at_call 42; refine (HP.out _).mono ?_; rintro e w1 ⟨rfl, hB⟩; have P1 := Lib.hid (P0.out.below hB); have k0 := P1.out.c0; have k1 := P1.out.c1; clear hB)
            | (go_at_call 43; refine (HS.out _).mono ?_; rintro e w2 ⟨rfl, hB⟩; have P2 := Lib.hid (P1.out.below hB); have k0 := P2.out.c0; have k1 := P2.out.c1; clear hB))
          go_ret2
          exact ⟨by rw [← HC1.out]; rfl, P2.out.bel⟩
        · rw [if_neg h0]
          go_enter Tryd.func19, Tryd.ntmps19
          go_wp2_with (first
            | (go_at_call 42; refine (HP.out _).mono ?_; rintro e w1 ⟨rfl, hB⟩; have P1 := Lib.hid (P0.out.below hB); have k0 := P1.out.c0; have k1 := P1.out.c1; clear hB)
            | (go_at_call 43; refine (HS.out _).mono ?_; rintro e w2 ⟨rfl, hB⟩; have P2 := Lib.hid (P1.out.below hB); have k0 := P2.out.c0; have k1 := P2.out.c1; clear hB))
          go_ret2
          exact ⟨by rw [← HC0.out]; rfl, P2.out.bel⟩
      · have ex : (if false = true then fixL x else x) = x := if_neg (by simp)
        rw [ex]
        clear ex h11
        by_cases h0 : l < 0
        · rw [if_pos h0]
          go_enter Tryd.func19, Tryd.ntmps19
          go_wp2_with (first
            | (go_at_call 42; refine (HP.out _).mono ?_; rintro e w1 ⟨rfl, hB⟩; have P1 := Lib.hid (P0.out.below hB); have k0 := P1.out.c0; have k1 := P1.out.c1; clear hB)
            | (go_at_call 43; refine (HS.out _).mono ?_; rintro e w2 ⟨rfl, hB⟩; have P2 := Lib.hid (P1.out.below hB); have k0 := P2.out.c0; have k1 := P2.out.c1; clear hB))
          go_ret2
          exact ⟨by rw [← HC1.out]; rfl, P2.out.bel⟩
        · rw [if_neg h0]
          go_enter Tryd.func19, Tryd.ntmps19
          go_wp2_with (first
            | (go_at_call 42; refine (HP.out _).mono ?_; rintro e w1 ⟨rfl, hB⟩; have P1 := Lib.hid (P0.out.below hB); have k0 := P1.out.c0; have k1 := P1.out.c1; clear hB)
            | (go_at_call 43; refine (HS.out _).mono ?_; rintro e w2 ⟨rfl, hB⟩; have P2 := Lib.hid (P1.out.below hB); have k0 := P2.out.c0; have k1 := P2.out.c1; clear hB))
          go_ret2
          exact ⟨by rw [← HC0.out]; rfl, P2.out.bel⟩
  · rw [if_neg hp, if_neg hp]
    rw [Bool.eq_false_iff.2 hp] at HP
    clear hp hn
    unfold sv at *
    go_enter Tryd.func19, Tryd.ntmps19
    go_wp2_with (go_at_call 42; refine (HP.out _).mono ?_; rintro e w1 ⟨rfl, hB⟩; have P1 := Lib.hid (P0.out.below hB); clear hB)
    go_ret2
    exact ⟨rfl, P1.out.bel⟩
end
end Cf
end Go.Proofs.YteigdcbaojmfgaaDoor
