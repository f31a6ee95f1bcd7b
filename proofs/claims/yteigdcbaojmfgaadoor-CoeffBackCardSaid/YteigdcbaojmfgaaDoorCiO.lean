/- law08: of, code. -/
import Derived.Test.YteigdcbaojmfgaaDoorCiB
import Derived.Test.YteigdcbaojmfgaaDoorPick
namespace Go.Proofs.YteigdcbaojmfgaaDoor
open Go.RowKit
set_option linter.unusedSimpArgs false
set_option linter.unusedVariables false
namespace Cf
def ofL (x : Int) : Int := if x % 254 - 127 ≥ 0 then x % 254 - 127 + 1 else x % 254 - 127
theorem of_pair (x y : Int) : pairB (x % 64) (ofL y) = true := by
  unfold pairB ofL
  rw [decide_eq_true_eq]
  split <;> omega
section
set_option maxRecDepth 100000
set_option maxHeartbeats 4000000
theorem of_any (x y : Int) (w : World) : Calls Tryd.prog 14 #[.int .i64 x, .int .i64 y] w fun e w' => e = .returned (prV (x % 64) (ofL y)) ∧ Below w.heap.size w w' := by
  have H := Lib.hid (heap_alloc_new w (.cells #[.int .i64 0, .int .i64 0] 26))
  have B0 := Lib.hid ((Below.refl w.heap.size w).alloc (Nat.le_refl _) (.cells #[.int .i64 0, .int .i64 0] 26))
  have P1 := Lib.hid (fun W => Pick_any y 254 W (by decide) (by decide))
  have P2 := Lib.hid (fun W => Pick_any x 64 W (by decide) (by decide))
  have m1 := Int.emod_nonneg y (show (254 : Int) ≠ 0 by decide)
  have m2 := Int.emod_lt_of_pos y (show (0 : Int) < 254 by decide)
  unfold ofL
  obtain ⟨u, hu⟩ : ∃ u, y % 254 = u := ⟨_, rfl⟩
  obtain ⟨v, hv⟩ : ∃ v, x % 64 = v := ⟨_, rfl⟩
  rw [hu] at P1 m1 m2 ⊢
  rw [hv] at P2 ⊢
  clear hu hv
  have fin : ∀ (z : Int) (V : World), V.heap[w.heap.size]? = some (.cells #[.int .i64 0, .int .i64 0] 26 (0, 0)) → Below w.heap.size w V → ((V.setCell ⟨w.heap.size, 0, none⟩ (.int .i64 v)).setCell ⟨w.heap.size, 1, none⟩ (.int .i64 z)).heap[w.heap.size]? = some (.cells #[.int .i64 v, .int .i64 z] 26 (0, 0)) ∧ Below w.heap.size w ((V.setCell ⟨w.heap.size, 0, none⟩ (.int .i64 v)).setCell ⟨w.heap.size, 1, none⟩ (.int .i64 z)) := fun z V h b =>
    ⟨ob_set (ob_set h 0 (.int .i64 v)) 1 (.int .i64 z), (b.setCell (p := ⟨w.heap.size, 0, none⟩) (Nat.le_refl _) _).setCell (p := ⟨w.heap.size, 1, none⟩) (Nat.le_refl _) _⟩
  have FIN := Lib.hid fin
  clear fin
  have t127 : wrap64 (u - 127) = u - 127 := w64 (by omega)
  by_cases h0 : u - 127 ≥ 0
  · rw [if_pos h0]
    have h0' : (0 : Int) ≤ u - 127 := h0
    have t128 : wrap64 (u - 127 + 1) = u - 127 + 1 := w64 (by omega)
    clear h0
    go_enter Tryd.func14, Tryd.ntmps14
    go_wp2_with (first
      | (go_at_call_of 36 (Value.int IntKind.i64 254); refine (P1.out _).mono ?_; rintro e w1 ⟨rfl, rfl⟩)
      | (go_at_call_of 36 (Value.int IntKind.i64 64); refine (P2.out _).mono ?_; rintro e w1 ⟨rfl, rfl⟩)
      | (go_at_call 25; refine (lpair_any _ _ _).mono ?_; rintro e w1 ⟨rfl, hB⟩; unfold prV; have K := (hB.block _ (Array.getElem?_eq_some_iff.1 H.out).1).trans H.out; have f0 := frozen_of_row K 0; have f1 := frozen_of_row K 1; have c0 := cell_row K (i := 0) rfl; have c1 := cell_row K (i := 1) rfl; have K2 := Lib.hid K; have B2 := Lib.hid (chain B0.out hB); clear K hB))
    have G := FIN.out (u - 127 + 1) _ K2.out B2.out
    exact bodyPost_ret (results_pair rfl _ rfl G.1) rfl ⟨rfl, G.2⟩
  · rw [if_neg h0]
    have h0' : u - 127 < 0 := by omega
    clear h0
    go_enter Tryd.func14, Tryd.ntmps14
    go_wp2_with (first
      | (go_at_call_of 36 (Value.int IntKind.i64 254); refine (P1.out _).mono ?_; rintro e w1 ⟨rfl, rfl⟩)
      | (go_at_call_of 36 (Value.int IntKind.i64 64); refine (P2.out _).mono ?_; rintro e w1 ⟨rfl, rfl⟩)
      | (go_at_call 25; refine (lpair_any _ _ _).mono ?_; rintro e w1 ⟨rfl, hB⟩; unfold prV; have K := (hB.block _ (Array.getElem?_eq_some_iff.1 H.out).1).trans H.out; have f0 := frozen_of_row K 0; have f1 := frozen_of_row K 1; have c0 := cell_row K (i := 0) rfl; have c1 := cell_row K (i := 1) rfl; have K2 := Lib.hid K; have B2 := Lib.hid (chain B0.out hB); clear K hB))
    have G := FIN.out (u - 127) _ K2.out B2.out
    exact bodyPost_ret (results_pair rfl _ rfl G.1) rfl ⟨rfl, G.2⟩
def oneK (l : List Bool) (k : Nat) : Bool := (l.take (min k 9)).any id
theorem lcode_any (l : List Bool) (most : Nat) (w : World) (h1 : 1 ≤ l.length) (hm : l.length ≤ most) (hm2 : most ≤ 20) (ho : (l.take 9).any id = true) :
    Calls Tryd.prog 17 #[sv (cs l), .int .i64 most] w fun e w' => e = .returned (.bool true) ∧ w = w' := by
  unfold sv
  have hx := ba_size (cs l)
  rw [cs_len] at hx
  have hel : ∀ (j : Nat) (h : j < (⟨(cs l).toArray⟩ : ByteArray).size), (⟨(cs l).toArray⟩ : ByteArray)[j]'h = bch (l.getD j false) := by
    intro j h
    have h2 : j < (cs l).length := h
    have h3 : j < l.length := by rw [cs_len] at h2; exact h2
    show (cs l)[j]'h2 = _
    simp only [cs, List.getElem_map]
    rw [List.getD_eq_getElem?_getD, List.getElem?_eq_getElem h3]
    rfl
  have HEL := Lib.hid hel
  have hok : ∀ k, k < l.length → oneK l (k + 1) = if k < 9 then (oneK l k || l.getD k false) else oneK l k := by
    intro k hk
    unfold oneK
    by_cases h9 : k < 9
    · rw [if_pos h9, Nat.min_eq_left (by omega), Nat.min_eq_left (by omega), List.take_succ_eq_append_getElem hk, List.any_append]
      simp [List.getD_eq_getElem?_getD, hk]
    · rw [if_neg h9, Nat.min_eq_right (by omega), Nat.min_eq_right (by omega)]
  have HOK := Lib.hid hok
  have he : oneK l l.length = true := by
    unfold oneK
    rw [← ho]
    congr 1
    rcases Nat.le_total l.length 9 with h | h
    · rw [Nat.min_eq_left h, List.take_of_length_le (Nat.le_refl _), List.take_of_length_le h]
    · rw [Nat.min_eq_right h]
  have HE := Lib.hid he
  have H0 := Lib.hid (show oneK l 0 = false by simp [oneK])
  obtain ⟨N, hN⟩ : ∃ N, l.length = N := ⟨_, rfl⟩
  rw [hN] at h1 hm hx HOK HE
  obtain ⟨sx, hsx⟩ : ∃ s : ByteArray, (⟨(cs l).toArray⟩ : ByteArray) = s := ⟨_, rfl⟩
  rw [hsx] at hx HEL ⊢
  clear hsx hN hel hok he ho
  go_enter Tryd.func17, Tryd.ntmps17
  go_wp2_with fail
  go_loop [5, 6] (fun o i => ∃ k : Nat, k ≤ N ∧ i = .int .i64 k ∧ Hid (o = .bool (oneK l k))) (fun _ i => N - (intOf i).toNat)
  case atStart => exact ⟨0, by omega, rfl, Lib.hid (by rw [H0.out])⟩
  case round =>
    obtain ⟨k, hk, rfl, HO⟩ := hrel
    have ho := HO.out
    subst ho
    by_cases hkN : k < N
    · have t1 : (k : Int) < (N : Int) := by omega
      have hch := HEL.out k (by omega)
      have HN := Lib.hid (HOK.out k hkN)
      obtain ⟨o, hoo⟩ : ∃ o, oneK l k = o := ⟨_, rfl⟩
      obtain ⟨b, hbb⟩ : ∃ o, l.getD k false = o := ⟨_, rfl⟩
      rw [hoo, hbb] at HN
      rw [hbb] at hch
      rw [hoo]
      clear hoo hbb HO
      have fin : ∀ c : Bool, (oneK l (k + 1) = c) → ∃ k1 : Nat, k1 ≤ N ∧ Value.int .i64 ((k : Int) + 1) = .int .i64 k1 ∧ Hid (Value.bool c = .bool (oneK l k1)) := fun c h => ⟨k + 1, by omega, by go_num, Lib.hid (by rw [h])⟩
      have FIN := Lib.hid fin
      clear fin
      by_cases h9 : k < 9
      · have t9 : (k : Int) < 9 := by omega
        rw [if_pos h9] at HN
        clear h9
        cases b
        · have hc : ∀ h : k < sx.size, sx[k]'h = 48 := fun _ => hch
          clear hch
          cases o
          · go_wp2_with fail
            go_round
            case rel => exact FIN.out _ HN.out
            case measure => simp [intOf]; omega
          · go_wp2_with fail
            go_round
            case rel => exact FIN.out _ HN.out
            case measure => simp [intOf]; omega
        · have hc : ∀ h : k < sx.size, sx[k]'h = 49 := fun _ => hch
          clear hch
          cases o
          · go_wp2_with fail
            go_round
            case rel => exact FIN.out _ HN.out
            case measure => simp [intOf]; omega
          · go_wp2_with fail
            go_round
            case rel => exact FIN.out _ HN.out
            case measure => simp [intOf]; omega
      · have t9 : ¬ (k : Int) < 9 := by omega
        rw [if_neg h9] at HN
        clear h9
        cases b
        · have hc : ∀ h : k < sx.size, sx[k]'h = 48 := fun _ => hch
          clear hch
          cases o
          · go_wp2_with fail
            go_round
            case rel => exact FIN.out _ HN.out
            case measure => simp [intOf]; omega
          · go_wp2_with fail
            go_round
            case rel => exact FIN.out _ HN.out
            case measure => simp [intOf]; omega
        · have hc : ∀ h : k < sx.size, sx[k]'h = 49 := fun _ => hch
          clear hch
          cases o
          · go_wp2_with fail
            go_round
            case rel => exact FIN.out _ HN.out
            case measure => simp [intOf]; omega
          · go_wp2_with fail
            go_round
            case rel => exact FIN.out _ HN.out
            case measure => simp [intOf]; omega
    · obtain rfl : k = N := by omega
      rw [HE.out]
      have t1 : ¬ (k : Int) < (k : Int) := by omega
      have t2 : (1 : Int) ≤ (k : Int) := by omega
      have t3 : (k : Int) ≤ (most : Int) := by omega
      clear HO
      go_wp2_with fail
      go_ret
      exact ⟨rfl, rfl⟩
end
end Cf
end Go.Proofs.YteigdcbaojmfgaaDoor
