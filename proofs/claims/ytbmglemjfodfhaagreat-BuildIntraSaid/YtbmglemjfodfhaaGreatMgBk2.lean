/- block.Residue. -/
import Derived.Test.YtbmglemjfodfhaaGreatMgBk
set_option linter.unusedVariables false
set_option linter.unusedSimpArgs false

namespace Go.Proofs.YtbmglemjfodfhaaGreat
open Go.RowKit
namespace Bk
open Sc Qu

/-- levels, spread, are levels. -/
theorem spF_bd (first : Int) (r l : Nat → Int) : ∀ n, spE first r l n = 0 → ∀ p, -127 ≤ spF first r l n p ∧ spF first r l n p ≤ 127
  | 0, _, p => by simp [spF]
  | n + 1, h, p => by
    obtain ⟨h1, _, h3, _, _⟩ := spE_cases h
    have ih := spF_bd first r l n h1 p
    unfold lvl at h3
    have h3 := of_decide_eq_true h3
    unfold spF
    split
    · exact h3
    · exact ih
theorem sp_levels (i : Bool) (n : Nat) (r l : Nat → Int) (h : sE (fst i) n r l = 0) (p : Nat) : -127 ≤ spF (fst i) r l n p ∧ spF (fst i) r l n p ≤ 127 := by
  unfold sE at h
  rw [if_pos (by cases i <;> simp [fst])] at h
  exact spF_bd _ _ _ _ h p
/-- what a block's levels are worth. -/
def wF (dc : Int) (n : Nat) (r l : Nat → Int) (i : Bool) (q : Int) : Nat → Int := if i then aV (spF 1 r l n) q dc else fun j => val (spF 0 r l n j) q
def rsE (dc : Int) (n : Nat) (r l : Nat → Int) (i : Bool) (q : Int) : Int := if bE dc n r l i ≠ 0 then bE dc n r l i else if q < 1 ∨ 31 < q then 3 else 0
def rsN (dc : Int) (n : Nat) (r l : Nat → Int) (i : Bool) (q : Int) : Nat := if rsE dc n r l i q = 0 then 64 else 0
theorem ok_all (f : Nat → Int) (q : Int) (h1 : 1 ≤ q) (h2 : q ≤ 31) (hf : ∀ p, -127 ≤ f p ∧ f p ≤ 127) : okAll f q 64 = true := by
  unfold okAll
  rw [List.all_eq_true]
  intro i _
  unfold okB
  exact decide_eq_true ⟨(hf i).1, (hf i).2, h1, h2⟩
theorem dcV_bd (c : Int) : -2048 ≤ dcV c ∧ dcV c ≤ 2047 := by unfold dcV; split <;> (try split) <;> (try split) <;> omega
theorem bE_dE {dc : Int} {n : Nat} {r l : Nat → Int} {i : Bool} (h : bE dc n r l i = 0) : dE dc n i = 0 := by
  unfold bE at h
  by_cases hd : dE dc n i ≠ 0
  · rw [if_pos hd] at h; exact h
  · simpa using hd
theorem dE_dcE {dc : Int} {n : Nat} (h : dE dc n true = 0) : dcE dc = 0 := by
  unfold dE at h
  rw [if_pos rfl] at h
  by_cases h1 : dc < 1 ∨ 255 < dc ∨ dc = 128
  · rw [if_pos h1] at h; exact absurd h (by decide)
  · unfold dcE; rw [if_neg (by omega), if_neg (by omega)]
theorem ok_v (f : Nat → Int) (h : ∀ p, -2048 ≤ f p ∧ f p ≤ 2047) : Co.okV f 64 = true := by
  unfold Co.okV Co.okR
  rw [List.all_eq_true]
  intro i _
  unfold Co.inR
  have := h i
  first
    | exact decide_eq_true this
    | simp; omega
theorem wF_bd (dc : Int) (n : Nat) (r l : Nat → Int) (i : Bool) (q : Int) (h1 : 1 ≤ q) (p : Nat) : -2048 ≤ wF dc n r l i q p ∧ wF dc n r l i q p ≤ 2047 := by
  unfold wF
  cases i
  · exact val_bd _ _ h1
  · rw [if_pos rfl]
    unfold aV
    split
    · exact dcV_bd dc
    · exact val_bd _ _ h1
set_option maxRecDepth 100000 in
set_option maxHeartbeats 2000000 in
theorem Residue_any (dc : Int) (q : Option Addr) (n c : Nat) (r l : Nat → Int) (i : Bool) (by' : Int) (hn : n ≤ 1000) (w : World) (hp : Pl w (.slice q n c) n r l) :
    Calls Tryz.prog 53 #[bv dc q n c, .int .i64 by', .bool i] w fun e w' => ∃ v, e = .returned (.tuple #[v, .int .i64 (rsE dc n r l i by')]) ∧ Res .i64 w.heap.size w' v (rsN dc n r l i by') (Co.invC (wF dc n r l i by')) ∧ Below w.heap.size w w' := by
  have HL := Lib.hid (fun V (h : Pl V (.slice q n c) n r l) => Levels_any dc q n c r l i hn V h)
  have HB := Lib.hid ((Below.refl w.heap.size w).alloc (Nat.le_refl _) (.cells #[.int .i64 dc, .slice q n c] 74))
  have HA := Lib.hid (At.new w #[.int .i64 dc, .slice q n c] 74)
  have HP := Lib.hid (hp.below HB.out)
  clear hp
  by_cases h0 : bE dc n r l i = 0
  · rw [h0, show lN dc n r l i = 64 from if_pos h0] at HL
    obtain ⟨F, hF⟩ : ∃ F, spF (fst i) r l n = F := ⟨_, rfl⟩
    have bF : ∀ p, -127 ≤ F p ∧ F p ≤ 127 := fun p => by rw [← hF]; exact sp_levels i n r l (bE_sE h0) p
    by_cases hq : by' < 1 ∨ 31 < by'
    · have e3 : rsE dc n r l i by' = 3 := by unfold rsE; rw [if_neg (by simp [h0]), if_pos hq]
      rw [e3, show rsN dc n r l i by' = 0 by unfold rsN; rw [e3]; rfl]
      clear e3
      obtain ⟨R, hR⟩ : ∃ R, Co.invC (wF dc n r l i by') = R := ⟨_, rfl⟩
      rw [hR]
      rw [hF] at HL
      clear hR hF bF h0
      go_enter Tryz.func53, Tryz.ntmps53
      go_upto_region 2 with (go_at_call 93; refine (HL.out _ HP.out).mono ?_; rintro e w1 ⟨v1, rfl, hR, h1⟩; have HB := Lib.hid (chain HB.out h1); clear h1 hR)
      by_cases hq1 : by' < 1
      · go_wp2_with fail
        go_ret2
        exact ⟨_, rfl, .inl ⟨rfl, rfl⟩, HB.out⟩
      · have hq2 : 31 < by' := by omega
        go_wp2_with fail
        go_ret2
        exact ⟨_, rfl, .inl ⟨rfl, rfl⟩, HB.out⟩
    · have e3 : rsE dc n r l i by' = 0 := by unfold rsE; rw [if_neg (by simp [h0]), if_neg hq]
      rw [e3, show rsN dc n r l i by' = 64 by unfold rsN; rw [e3]; rfl]
      clear e3
      have hq1 : ¬ by' < 1 := by omega
      have hq2 : ¬ 31 < by' := by omega
      have okA := ok_all F by' (by omega) (by omega) bF
      have okI := ok_v _ (wF_bd dc n r l i by' (by omega))
      have HI : Hid (∀ V v, Sl .i64 V v 64 (wF dc n r l i by') → Calls Tryz.prog 96 #[v] V fun e w' => ∃ v', e = .returned (.tuple #[v', .int .i64 0]) ∧ Res .i64 V.heap.size w' v' 64 (Co.invC (wF dc n r l i by')) ∧ Below V.heap.size V w') := Lib.hid (fun V v hs => by
        have := Co.Inverse_any v 64 _ V hs
        unfold Co.Inverts at this
        rw [show Co.vE 64 (wF dc n r l i by') = 0 by unfold Co.vE; rw [if_pos rfl, okI]; rfl, show Co.vN 64 (wF dc n r l i by') = 64 by unfold Co.vN; rw [if_pos rfl, okI]; rfl] at this
        exact this)
      have HE := Lib.hid (bE_dE h0)
      cases i
      · have HW : Hid (∀ V v, Sl .i64 V v 64 F → Calls Tryz.prog 95 #[v, .int .i64 by'] V fun e w' => ∃ v', e = .returned (.tuple #[v', .int .i64 0]) ∧ Res .i64 V.heap.size w' v' 64 (wF dc n r l false by') ∧ Below V.heap.size V w') := Lib.hid (fun V v hs => by
          have := Inter_any v 64 F by' V hs
          unfold Inters at this
          rw [show iE 64 F by' = 0 by unfold iE; rw [if_pos rfl, okA]; rfl, show iN 64 F by' = 64 by unfold iN; rw [if_pos rfl, okA]; rfl] at this
          rw [show wF dc n r l false by' = fun j => val (F j) by' by unfold wF; rw [← hF]; rfl]
          exact this)
        obtain ⟨G, hG⟩ : ∃ G, wF dc n r l false by' = G := ⟨_, rfl⟩
        rw [hG] at HI HW
        rw [hG]
        obtain ⟨R, hR⟩ : ∃ R, Co.invC G = R := ⟨_, rfl⟩
        rw [hR] at HI
        rw [hR]
        rw [hF] at HL
        clear hR hF bF h0 hG okA okI
        go_enter Tryz.func53, Tryz.ntmps53
        go_wp2_with (first
          | (go_at_call 93; refine (HL.out _ HP.out).mono ?_; rintro e w1 ⟨v1, rfl, hR, h1⟩; have HB := Lib.hid (chain HB.out h1); have HR1 := Lib.hid hR; clear h1 hR)
          | (go_at_call 95; refine (HW.out _ _ HR1.out.sl).mono ?_; rintro e w2 ⟨v2, rfl, hR, h1⟩; have HB := Lib.hid (chain HB.out h1); have HR2 := Lib.hid hR; clear h1 hR)
          | (go_at_call 96; refine (HI.out _ _ HR2.out.sl).mono ?_; rintro e w3 ⟨v3, rfl, hR, h1⟩; have sz := HB.out.size; have HB := Lib.hid (chain HB.out h1); have HR3 := Lib.hid hR; clear h1 hR))
        go_ret2
        exact ⟨_, rfl, Res.base HR3.out sz, HB.out⟩
      · have e0 := dE_dcE HE.out
        have HW : Hid (∀ V v, Sl .i64 V v 64 F → Calls Tryz.prog 94 #[v, .int .i64 by', .int .i64 dc] V fun e w' => ∃ v', e = .returned (.tuple #[v', .int .i64 0]) ∧ Res .i64 V.heap.size w' v' 64 (wF dc n r l true by') ∧ Below V.heap.size V w') := Lib.hid (fun V v hs => by
          have := Intra_any v 64 F by' dc V hs
          unfold Intras at this
          have e1 : iE 64 F by' = 0 := by unfold iE; rw [if_pos rfl, okA]; rfl
          rw [show aE 64 F by' dc = 0 by unfold aE; rw [if_pos e1, e0], show aN 64 F by' dc = 64 by unfold aN; rw [if_pos ⟨e1, e0⟩]] at this
          rw [show wF dc n r l true by' = aV F by' dc by unfold wF; rw [← hF]; rfl]
          exact this)
        obtain ⟨G, hG⟩ : ∃ G, wF dc n r l true by' = G := ⟨_, rfl⟩
        rw [hG] at HI HW
        rw [hG]
        obtain ⟨R, hR⟩ : ∃ R, Co.invC G = R := ⟨_, rfl⟩
        rw [hR] at HI
        rw [hR]
        rw [hF] at HL
        clear hR hF bF h0 hG okA okI e0
        have k0 := HA.out.cell 0 _ rfl
        go_enter Tryz.func53, Tryz.ntmps53
        go_wp2_with (first
          | (go_at_call 93; refine (HL.out _ HP.out).mono ?_; rintro e w1 ⟨v1, rfl, hR, h1⟩; have HB := Lib.hid (chain HB.out h1); have HR1 := Lib.hid hR; have HA := Lib.hid (HA.out.below h1); have k0 := HA.out.cell 0 _ rfl; clear h1 hR)
          | (go_at_call 94; refine (HW.out _ _ HR1.out.sl).mono ?_; rintro e w2 ⟨v2, rfl, hR, h1⟩; have HB := Lib.hid (chain HB.out h1); have HR2 := Lib.hid hR; clear h1 hR)
          | (go_at_call 96; refine (HI.out _ _ HR2.out.sl).mono ?_; rintro e w3 ⟨v3, rfl, hR, h1⟩; have sz := HB.out.size; have HB := Lib.hid (chain HB.out h1); have HR3 := Lib.hid hR; clear h1 hR))
        go_ret2
        exact ⟨_, rfl, Res.base HR3.out sz, HB.out⟩
  · obtain ⟨E, hE⟩ : ∃ E, bE dc n r l i = E := ⟨_, rfl⟩
    have e3 : rsE dc n r l i by' = E := by unfold rsE; rw [if_pos h0, hE]
    rw [e3, show rsN dc n r l i by' = 0 by unfold rsN; rw [e3, ← hE, if_neg h0]]
    clear e3
    rw [show lN dc n r l i = 0 from if_neg h0, hE] at HL
    rw [hE] at h0
    have t1 : (E != 0) = true := by simp [h0]
    obtain ⟨R, hR⟩ : ∃ R, Co.invC (wF dc n r l i by') = R := ⟨_, rfl⟩
    obtain ⟨F, hF⟩ : ∃ F, spF (fst i) r l n = F := ⟨_, rfl⟩
    rw [hR]
    rw [hF] at HL
    clear hR hF h0 hE
    go_enter Tryz.func53, Tryz.ntmps53
    go_wp2_with (go_at_call 93; refine (HL.out _ HP.out).mono ?_; rintro e w1 ⟨v1, rfl, hR, h1⟩; have HB := Lib.hid (chain HB.out h1); clear h1 hR)
    go_ret2
    exact ⟨_, rfl, .inl ⟨rfl, rfl⟩, HB.out⟩
end Bk
end Go.Proofs.YtbmglemjfodfhaaGreat
