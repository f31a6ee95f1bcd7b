/- block.Residue. | The document's Spread. | The document's answer: blocks: Check, Levels, Residue. | An intra block without pairs is flat: plain. -/
import Derived.Test.YtpibeocngkjolaaGreatDoorMgBk
import Derived.Test.YtpibeocngkjolaaGreatDoorMgCosQ
import Derived.Test.YtpibeocngkjolaaGreatDoorMgSpread
import Derived.Deep.Cut
import Derived.Deep.RegionWith
set_option linter.unusedVariables false
set_option linter.unusedSimpArgs false

namespace Go.Proofs.YtpibeocngkjolaaGreatDoor
open Go.RowKit
namespace Bk
open Sc Qu

/-- levels, spread, are levels. -/
theorem spF_bd (first : Int) (r l : Nat → Int) : ∀ n, spE first r l n = 0 → ∀ p, -127 ≤ spF first r l n p ∧ spF first r l n p ≤ 127
  | 0, _, p => by simp [spF]
  | n + 1, h, p => by
    obtain ⟨h1, _, h3, _, _⟩ := spE_cases h
    have ih := spF_bd first r l n h1 p
    unfold lvl at h3
    have h3 := of_decide_eq_true h3
    unfold spF
    split
    · exact h3
    · exact ih
theorem sp_levels (i : Bool) (n : Nat) (r l : Nat → Int) (h : sE (fst i) n r l = 0) (p : Nat) : -127 ≤ spF (fst i) r l n p ∧ spF (fst i) r l n p ≤ 127 := by
  unfold sE at h
  rw [if_pos (by cases i <;> simp [fst])] at h
  exact spF_bd _ _ _ _ h p
/-- what a block's levels are worth. -/
def wF (dc : Int) (n : Nat) (r l : Nat → Int) (i : Bool) (q : Int) : Nat → Int := if i then aV (spF 1 r l n) q dc else fun j => val (spF 0 r l n j) q
def rsE (dc : Int) (n : Nat) (r l : Nat → Int) (i : Bool) (q : Int) : Int := if bE dc n r l i ≠ 0 then bE dc n r l i else if q < 1 ∨ 31 < q then 3 else 0
def rsN (dc : Int) (n : Nat) (r l : Nat → Int) (i : Bool) (q : Int) : Nat := if rsE dc n r l i q = 0 then 64 else 0
theorem ok_all (f : Nat → Int) (q : Int) (h1 : 1 ≤ q) (h2 : q ≤ 31) (hf : ∀ p, -127 ≤ f p ∧ f p ≤ 127) : okAll f q 64 = true := by
  unfold okAll
  rw [List.all_eq_true]
  intro i _
  unfold okB
  exact decide_eq_true ⟨(hf i).1, (hf i).2, h1, h2⟩
theorem dcV_bd (c : Int) : -2048 ≤ dcV c ∧ dcV c ≤ 2047 := by unfold dcV; split <;> (try split) <;> (try split) <;> omega
theorem bE_dE {dc : Int} {n : Nat} {r l : Nat → Int} {i : Bool} (h : bE dc n r l i = 0) : dE dc n i = 0 := by
  unfold bE at h
  by_cases hd : dE dc n i ≠ 0
  · rw [if_pos hd] at h; exact h
  · simpa using hd
theorem dE_dcE {dc : Int} {n : Nat} (h : dE dc n true = 0) : dcE dc = 0 := by
  unfold dE at h
  rw [if_pos rfl] at h
  by_cases h1 : dc < 1 ∨ 255 < dc ∨ dc = 128
  · rw [if_pos h1] at h; exact absurd h (by decide)
  · unfold dcE; rw [if_neg (by omega), if_neg (by omega)]
theorem ok_v (f : Nat → Int) (h : ∀ p, -2048 ≤ f p ∧ f p ≤ 2047) : Co.okV f 64 = true := by
  unfold Co.okV Co.okR
  rw [List.all_eq_true]
  intro i _
  unfold Co.inR
  have := h i
  first
    | exact decide_eq_true this
    | simp; omega
theorem wF_bd (dc : Int) (n : Nat) (r l : Nat → Int) (i : Bool) (q : Int) (h1 : 1 ≤ q) (p : Nat) : -2048 ≤ wF dc n r l i q p ∧ wF dc n r l i q p ≤ 2047 := by
  unfold wF
  cases i
  · exact val_bd _ _ h1
  · rw [if_pos rfl]
    unfold aV
    split
    · exact dcV_bd dc
    · exact val_bd _ _ h1
set_option maxRecDepth 100000 in
set_option maxHeartbeats 2000000 in
theorem Residue_any (dc : Int) (q : Option Addr) (n c : Nat) (r l : Nat → Int) (i : Bool) (by' : Int) (hn : n ≤ 1000) (w : World) (hp : Pl w (.slice q n c) n r l) :
    Calls Tryz.prog 26 #[bv dc q n c, .int .i64 by', .bool i] w fun e w' => ∃ v, e = .returned (.tuple #[v, .int .i64 (rsE dc n r l i by')]) ∧ Res .i64 w.heap.size w' v (rsN dc n r l i by') (Co.invC (wF dc n r l i by')) ∧ Below w.heap.size w w' := by
  have HL := Lib.hid (fun V (h : Pl V (.slice q n c) n r l) => Levels_any dc q n c r l i hn V h)
  have HB := Lib.hid ((Below.refl w.heap.size w).alloc (Nat.le_refl _) (.cells #[.int .i64 dc, .slice q n c] 27))
  have HA := Lib.hid (At.new w #[.int .i64 dc, .slice q n c] 27)
  have HP := Lib.hid (hp.below HB.out)
  clear hp
  by_cases h0 : bE dc n r l i = 0
  · rw [h0, show lN dc n r l i = 64 from if_pos h0] at HL
    obtain ⟨F, hF⟩ : ∃ F, spF (fst i) r l n = F := ⟨_, rfl⟩
    have bF : ∀ p, -127 ≤ F p ∧ F p ≤ 127 := fun p => by rw [← hF]; exact sp_levels i n r l (bE_sE h0) p
    by_cases hq : by' < 1 ∨ 31 < by'
    · have e3 : rsE dc n r l i by' = 3 := by unfold rsE; rw [if_neg (by simp [h0]), if_pos hq]
      rw [e3, show rsN dc n r l i by' = 0 by unfold rsN; rw [e3]; rfl]
      clear e3
      obtain ⟨R, hR⟩ : ∃ R, Co.invC (wF dc n r l i by') = R := ⟨_, rfl⟩
      rw [hR]
      rw [hF] at HL
      clear hR hF bF h0
      go_enter Tryz.func26, Tryz.ntmps26
      go_upto_region 2 with (go_at_call 20; refine (HL.out _ HP.out).mono ?_; rintro e w1 ⟨v1, rfl, hR, h1⟩; have HB := Lib.hid (chain HB.out h1); clear h1 hR)
      by_cases hq1 : by' < 1
      · go_wp2_with fail
        go_ret2
        exact ⟨_, rfl, .inl ⟨rfl, rfl⟩, HB.out⟩
      · have hq2 : 31 < by' := by omega
        go_wp2_with fail
        go_ret2
        exact ⟨_, rfl, .inl ⟨rfl, rfl⟩, HB.out⟩
    · have e3 : rsE dc n r l i by' = 0 := by unfold rsE; rw [if_neg (by simp [h0]), if_neg hq]
      rw [e3, show rsN dc n r l i by' = 64 by unfold rsN; rw [e3]; rfl]
      clear e3
      have hq1 : ¬ by' < 1 := by omega
      have hq2 : ¬ 31 < by' := by omega
      have okA := ok_all F by' (by omega) (by omega) bF
      have okI := ok_v _ (wF_bd dc n r l i by' (by omega))
      have HI : Hid (∀ V v, Sl .i64 V v 64 (wF dc n r l i by') → Calls Tryz.prog 56 #[v] V fun e w' => ∃ v', e = .returned (.tuple #[v', .int .i64 0]) ∧ Res .i64 V.heap.size w' v' 64 (Co.invC (wF dc n r l i by')) ∧ Below V.heap.size V w') := Lib.hid (fun V v hs => by
        have := Co.Inverse_any v 64 _ V hs
        unfold Co.Inverts at this
        rw [show Co.vE 64 (wF dc n r l i by') = 0 by unfold Co.vE; rw [if_pos rfl, okI]; rfl, show Co.vN 64 (wF dc n r l i by') = 64 by unfold Co.vN; rw [if_pos rfl, okI]; rfl] at this
        exact this)
      have HE := Lib.hid (bE_dE h0)
      cases i
      · have HW : Hid (∀ V v, Sl .i64 V v 64 F → Calls Tryz.prog 55 #[v, .int .i64 by'] V fun e w' => ∃ v', e = .returned (.tuple #[v', .int .i64 0]) ∧ Res .i64 V.heap.size w' v' 64 (wF dc n r l false by') ∧ Below V.heap.size V w') := Lib.hid (fun V v hs => by
          have := Inter_any v 64 F by' V hs
          unfold Inters at this
          rw [show iE 64 F by' = 0 by unfold iE; rw [if_pos rfl, okA]; rfl, show iN 64 F by' = 64 by unfold iN; rw [if_pos rfl, okA]; rfl] at this
          rw [show wF dc n r l false by' = fun j => val (F j) by' by unfold wF; rw [← hF]; rfl]
          exact this)
        obtain ⟨G, hG⟩ : ∃ G, wF dc n r l false by' = G := ⟨_, rfl⟩
        rw [hG] at HI HW
        rw [hG]
        obtain ⟨R, hR⟩ : ∃ R, Co.invC G = R := ⟨_, rfl⟩
        rw [hR] at HI
        rw [hR]
        rw [hF] at HL
        clear hR hF bF h0 hG okA okI
        go_enter Tryz.func26, Tryz.ntmps26
        go_wp2_with (first
          | (go_at_call 20; refine (HL.out _ HP.out).mono ?_; rintro e w1 ⟨v1, rfl, hR, h1⟩; have HB := Lib.hid (chain HB.out h1); have HR1 := Lib.hid hR; clear h1 hR)
          | (go_at_call 55; refine (HW.out _ _ HR1.out.sl).mono ?_; rintro e w2 ⟨v2, rfl, hR, h1⟩; have HB := Lib.hid (chain HB.out h1); have HR2 := Lib.hid hR; clear h1 hR)
          | (go_at_call 56; refine (HI.out _ _ HR2.out.sl).mono ?_; rintro e w3 ⟨v3, rfl, hR, h1⟩; have sz := HB.out.size; have HB := Lib.hid (chain HB.out h1); have HR3 := Lib.hid hR; clear h1 hR))
        go_ret2
        exact ⟨_, rfl, Res.base HR3.out sz, HB.out⟩
      · have e0 := dE_dcE HE.out
        have HW : Hid (∀ V v, Sl .i64 V v 64 F → Calls Tryz.prog 54 #[v, .int .i64 by', .int .i64 dc] V fun e w' => ∃ v', e = .returned (.tuple #[v', .int .i64 0]) ∧ Res .i64 V.heap.size w' v' 64 (wF dc n r l true by') ∧ Below V.heap.size V w') := Lib.hid (fun V v hs => by
          have := Intra_any v 64 F by' dc V hs
          unfold Intras at this
          have e1 : iE 64 F by' = 0 := by unfold iE; rw [if_pos rfl, okA]; rfl
          rw [show aE 64 F by' dc = 0 by unfold aE; rw [if_pos e1, e0], show aN 64 F by' dc = 64 by unfold aN; rw [if_pos ⟨e1, e0⟩]] at this
          rw [show wF dc n r l true by' = aV F by' dc by unfold wF; rw [← hF]; rfl]
          exact this)
        obtain ⟨G, hG⟩ : ∃ G, wF dc n r l true by' = G := ⟨_, rfl⟩
        rw [hG] at HI HW
        rw [hG]
        obtain ⟨R, hR⟩ : ∃ R, Co.invC G = R := ⟨_, rfl⟩
        rw [hR] at HI
        rw [hR]
        rw [hF] at HL
        clear hR hF bF h0 hG okA okI e0
        have k0 := HA.out.cell 0 _ rfl
        go_enter Tryz.func26, Tryz.ntmps26
        go_wp2_with (first
          | (go_at_call 20; refine (HL.out _ HP.out).mono ?_; rintro e w1 ⟨v1, rfl, hR, h1⟩; have HB := Lib.hid (chain HB.out h1); have HR1 := Lib.hid hR; have HA := Lib.hid (HA.out.below h1); have k0 := HA.out.cell 0 _ rfl; clear h1 hR)
          | (go_at_call 54; refine (HW.out _ _ HR1.out.sl).mono ?_; rintro e w2 ⟨v2, rfl, hR, h1⟩; have HB := Lib.hid (chain HB.out h1); have HR2 := Lib.hid hR; clear h1 hR)
          | (go_at_call 56; refine (HI.out _ _ HR2.out.sl).mono ?_; rintro e w3 ⟨v3, rfl, hR, h1⟩; have sz := HB.out.size; have HB := Lib.hid (chain HB.out h1); have HR3 := Lib.hid hR; clear h1 hR))
        go_ret2
        exact ⟨_, rfl, Res.base HR3.out sz, HB.out⟩
  · obtain ⟨E, hE⟩ : ∃ E, bE dc n r l i = E := ⟨_, rfl⟩
    have e3 : rsE dc n r l i by' = E := by unfold rsE; rw [if_pos h0, hE]
    rw [e3, show rsN dc n r l i by' = 0 by unfold rsN; rw [e3, ← hE, if_neg h0]]
    clear e3
    rw [show lN dc n r l i = 0 from if_neg h0, hE] at HL
    rw [hE] at h0
    have t1 : (E != 0) = true := by simp [h0]
    obtain ⟨R, hR⟩ : ∃ R, Co.invC (wF dc n r l i by') = R := ⟨_, rfl⟩
    obtain ⟨F, hF⟩ : ∃ F, spF (fst i) r l n = F := ⟨_, rfl⟩
    rw [hR]
    rw [hF] at HL
    clear hR hF h0 hE
    go_enter Tryz.func26, Tryz.ntmps26
    go_wp2_with (go_at_call 20; refine (HL.out _ HP.out).mono ?_; rintro e w1 ⟨v1, rfl, hR, h1⟩; have HB := Lib.hid (chain HB.out h1); clear h1 hR)
    go_ret2
    exact ⟨_, rfl, .inl ⟨rfl, rfl⟩, HB.out⟩
end Bk
end Go.Proofs.YtpibeocngkjolaaGreatDoor

namespace Go.Proofs.YtpibeocngkjolaaGreatDoor
open Go.RowKit
namespace Sc

theorem make64s (w : World) : (Instr.makeSlice 38 (.int .i64 64) (.int .i64 64)).run Tryz.prog w = .ok (.slice (some ⟨w.heap.size, 0, none⟩) 64 64) (w.alloc (.cells (rowOf .i64 64 (fun _ => 0)) 3)) := by kernel_rfl
theorem zr_new (w : World) (t : TypeId) : Arr (w.alloc (.cells (rowOf .i64 64 (fun _ => 0)) t)) .i64 w.heap.size 64 (fun _ => 0) := Arr.new w .i64 _ t 64 _ (fun i hi => rowOf_get _ _ _ _ hi)
/-- a block of noughts, and the order. -/
def ZP (w wx : World) (u6 u7 u8 : Value) (first : Int) : Prop :=
  ∃ go gp, u6 = .slice (some ⟨go, 0, none⟩) 64 64 ∧ u7 = .int .i64 first ∧ u8 = .slice (some ⟨gp, 0, none⟩) 64 64 ∧ go ≠ gp ∧ w.heap.size ≤ go ∧ w.heap.size ≤ gp ∧ Arr wx .i64 go 64 (fun _ => 0) ∧ Arr wx .i64 gp 64 plF ∧ Below w.heap.size w wx
theorem zp_a (w : World) (t : TypeId) (first : Int) : ZP w ((w.alloc (.cells (rowOf .i64 64 (fun _ => 0)) t)).alloc (.cells (rowOf .i64 64 plF) t)).drew (.slice (some ⟨w.heap.size, 0, none⟩) 64 64) (.int .i64 first) (.slice (some ⟨w.heap.size + 1, 0, none⟩) 64 64) first := by
  have m2 := pl_new (w.alloc (.cells (rowOf .i64 64 (fun _ => 0)) t)) t
  rw [World.size_alloc] at m2
  exact ⟨_, _, rfl, rfl, rfl, by omega, Nat.le_refl _, by omega, ((zr_new w t).alloc _).drew, m2.drew, (((Below.refl w.heap.size w).alloc (Nat.le_refl _) _).alloc (by simp) _).drew⟩
theorem zp_b (w : World) (t : TypeId) (first : Int) : ZP w ((w.alloc (.cells (rowOf .i64 64 plF) t)).alloc (.cells (rowOf .i64 64 (fun _ => 0)) t)).drew (.slice (some ⟨w.heap.size + 1, 0, none⟩) 64 64) (.int .i64 first) (.slice (some ⟨w.heap.size, 0, none⟩) 64 64) first := by
  have m2 := zr_new (w.alloc (.cells (rowOf .i64 64 plF) t)) t
  rw [World.size_alloc] at m2
  exact ⟨_, _, rfl, rfl, rfl, by omega, by omega, Nat.le_refl _, m2.drew, ((pl_new w t).alloc _).drew, (((Below.refl w.heap.size w).alloc (Nat.le_refl _) _).alloc (by simp) _).drew⟩
theorem rspread_first (v : Value) (first : Int) (n : Nat) (r l : Nat → Int) (w : World) (hf : ¬ (first = 0 ∨ first = 1)) :
    Calls Tryz.prog 51 #[v, .int .i64 first] w (Spreads w first n r l) := by
  have E1 : Hid (sE first n r l = 3) := Lib.hid (by unfold sE; rw [if_neg hf])
  have E2 : Hid (sN first n r l = 0) := Lib.hid (by unfold sN; rw [E1.out]; rfl)
  have k0 : (first == 0) = false := by simp; omega
  have k1 : (first == 1) = false := by simp; omega
  have k2 : (first != 0) = true := by simp; omega
  have k3 : (first != 1) = true := by simp; omega
  clear hf
  go_enter Tryz.func51, Tryz.ntmps51
  go_wp2
  go_ret2
  exact ⟨.slice none 0 0, by rw [E1.out]; rfl, by rw [E2.out]; exact .inl ⟨rfl, rfl⟩, Below.refl _ _⟩

set_option maxRecDepth 100000 in
set_option maxHeartbeats 4000000 in
theorem rspread_in0 (v : Value) (a : Option Addr) (n c : Nat) (hv : v = .slice a n c) (r l : Nat → Int) (w : World) (hs : Pl w v n r l) (hn : n ≤ 1000) :
    Calls Tryz.prog 51 #[v, .int .i64 0] w (Spreads w 0 n r l) := by
  subst hv
  have RD : Hid (∀ i, i < n → ∃ b o, a = some ⟨b, o, none⟩ ∧ b < w.heap.size ∧ Pairs w b o n r l) := Lib.hid (by
    obtain ⟨a', c', he, _, _, h3⟩ := hs
    cases he
    intro i hi
    rcases h3 with ⟨h0, _⟩ | ⟨b, o, rfl, hb, hI⟩
    · omega
    · exact ⟨b, o, rfl, hb, hI⟩)
  have HE : Hid (sE 0 n r l = spE 0 r l n) := Lib.hid (by unfold sE; rw [if_pos (by decide)])
  have HN : Hid (sN 0 n r l = if spE 0 r l n = 0 then 64 else 0) := Lib.hid (by unfold sN; rw [HE.out])
  have hmk := make64s
  clear hs
  go_enter Tryz.func51, Tryz.ntmps51
  go_upto_region 3 with fail
  go_cut [6, 7, 8] from 16 (fun u6 u7 u8 wx => ZP w wx u6 u7 u8 0)
  case first =>
    go_region_with (go_at_call 77; refine (rorder_any _).mono ?_; rintro e w1 ⟨rfl, rfl⟩)
    all_goals (go_wp2_with fail; go_meet)
    all_goals first
      | exact zp_a w 3 0
      | exact zp_b w 3 0
  case rest =>
    obtain ⟨go, gp, rfl, rfl, rfl, hne, p1, p2, hA, hP, hB⟩ := hcut
    have HA := Lib.hid hA
    have HP := Lib.hid hP
    have HB := Lib.hid hB
    clear hA hP hB hmk
    go_wp2_with fail
    go_loopw [7, 9] (fun at_ i wr => ∃ k : Nat, k ≤ n ∧ at_ = .int .i64 (spA 0 r k) ∧ i = .int .i64 k ∧ spE 0 r l k = 0 ∧ Arr wr .i64 go 64 (spF 0 r l k) ∧ Arr wr .i64 gp 64 plF ∧ Below w.heap.size w wr) (fun _ i _ => n - (intOf i).toNat)
    case atStart => exact ⟨0, by omega, rfl, rfl, rfl, HA.out, HP.out, HB.out⟩
    case round =>
      obtain ⟨k, hk, rfl, rfl, hE, hA, hP, hB⟩ := hrel
      by_cases hkn : k < n
      · obtain ⟨b, o, rfl, hb, hI⟩ := RD.out k hkn
        obtain ⟨c1, c2⟩ := (hI.below hB hb) k hkn
        have kb : (0 : Int) ≤ (k : Int) ∧ (k : Int) < (n : Int) := by omega
        have ab := spA_bd (by decide) k hE
        have se := spE_succ 0 r l k
        rw [if_neg (by rw [hE]; simp)] at se
        obtain ⟨A, hAA⟩ : ∃ A, A = spA 0 r k := ⟨_, rfl⟩
        have sa : Hid (spA 0 r (k + 1) = A + r k + 1) := Lib.hid (by rw [hAA]; rfl)
        have sf : Hid (∀ p, p = at' (A + r k).toNat → spF 0 r l (k + 1) = fun i => if i = p then l k else spF 0 r l k i) := Lib.hid (by rw [hAA]; rintro p rfl; rfl)
        rw [← hAA] at ab se ⊢
        have HA := Lib.hid hA
        have HP := Lib.hid hP
        have HB := Lib.hid hB
        clear hA hP hB hI hE hAA
        by_cases g1 : l k = 0 ∨ lvl (l k) = false
        · rw [if_pos g1] at se
          have ES : Hid (spE 0 r l n = 10) := Lib.hid (by rw [spE_stay (by rw [se]; simp) n (by omega), se])
          clear se
          by_cases g0 : l k = 0
          · have kz : (l k == 0) = true := by simp [g0]
            go_wp2
            go_ret2
            exact ⟨.slice none 0 0, by rw [HE.out, ES.out]; rfl, by rw [HN.out, ES.out]; exact .inl ⟨rfl, rfl⟩, HB.out⟩
          · have kz : (l k == 0) = false := by simp [g0]
            have gl : ¬ (-127 ≤ l k ∧ l k ≤ 127) := by
              rcases g1 with g1 | g1
              · exact absurd g1 g0
              · simpa [lvl] using g1
            by_cases g3 : l k < -127
            · have d1 : decide (l k < -127) = true := by simp; omega
              go_wp2
              go_ret2
              exact ⟨.slice none 0 0, by rw [HE.out, ES.out]; rfl, by rw [HN.out, ES.out]; exact .inl ⟨rfl, rfl⟩, HB.out⟩
            · have d1 : decide (l k < -127) = false := by simp; omega
              have d2 : decide (127 < l k) = true := by simp; omega
              go_wp2
              go_ret2
              exact ⟨.slice none 0 0, by rw [HE.out, ES.out]; rfl, by rw [HN.out, ES.out]; exact .inl ⟨rfl, rfl⟩, HB.out⟩
        · rw [if_neg g1] at se
          have g0 : l k ≠ 0 := fun e => g1 (.inl e)
          have gl : -127 ≤ l k ∧ l k ≤ 127 := by
            by_cases e : -127 ≤ l k ∧ l k ≤ 127
            · exact e
            · exact absurd (.inr (by unfold lvl; simpa using e)) g1
          have kz : (l k == 0) = false := by simp [g0]
          have d3 : decide (l k < -127) = false := by simp; omega
          have d4 : decide (127 < l k) = false := by simp; omega
          clear g1
          by_cases g2 : r k < 0 ∨ 63 - A < r k
          · rw [if_pos g2] at se
            have ES : Hid (spE 0 r l n = 11) := Lib.hid (by rw [spE_stay (by rw [se]; simp) n (by omega), se])
            clear se
            by_cases g3 : r k < 0
            · have d1 : decide (r k < 0) = true := by simp [g3]
              go_wp2
              go_ret2
              exact ⟨.slice none 0 0, by rw [HE.out, ES.out]; rfl, by rw [HN.out, ES.out]; exact .inl ⟨rfl, rfl⟩, HB.out⟩
            · have d1 : decide (r k < 0) = false := by simp; omega
              have d2 : decide (63 - A < r k) = true := by simp; omega
              go_wp2
              go_ret2
              exact ⟨.slice none 0 0, by rw [HE.out, ES.out]; rfl, by rw [HN.out, ES.out]; exact .inl ⟨rfl, rfl⟩, HB.out⟩
          · rw [if_neg g2] at se
            have SE := Lib.hid se
            have d1 : decide (r k < 0) = false := by simp; omega
            have d2 : decide (63 - A < r k) = false := by simp; omega
            obtain ⟨q, hq⟩ : ∃ q : Nat, A + r k = (q : Int) := ⟨(A + r k).toNat, by omega⟩
            have q64 : q < 64 := by omega
            have qb : (0 : Int) ≤ (q : Int) ∧ (q : Int) < 64 := by omega
            obtain ⟨p, hp⟩ : ∃ p, p = at' q := ⟨_, rfl⟩
            have p64 : p < 64 := by rw [hp]; exact at_lt0 q q64
            have pb : (0 : Int) ≤ (p : Int) ∧ (p : Int) < 64 := by omega
            have PE : plF q = (p : Int) := by rw [hp]; rfl
            have FE := Lib.hid (sf.out p (by rw [hq, hp]; rfl))
            have cP := (HP.out q q64).1
            rw [PE] at cP
            have cA := HA.out p p64
            have x1 : IntKind.i64.wrap (A + r k) = A + r k := IntWalk.i64_in _ (by omega)
            clear se g2 hp PE sf
            go_wp2_with fail
            go_region
            go_wp2
            go_roundw
            case rel =>
              refine ⟨k + 1, by omega, by rw [sa.out, hq], by go_num, SE.out, ?_, ?_, ?_⟩
              · rw [FE.out]
                exact (HA.out.set p (l k)).drew
              · exact (HP.out.far (a := ⟨go, p, none⟩) hne _).drew
              · exact (HB.out.setCell (p := ⟨go, p, none⟩) p1 _).drew
            case measure => simp [intOf]; omega
      · have hE' : spE 0 r l n = 0 := by
          obtain rfl : k = n := by omega
          exact hE
        have hA' : Arr wr .i64 go 64 (spF 0 r l n) := by
          obtain rfl : k = n := by omega
          exact hA
        have HE2 : Hid (sE 0 n r l = 0) := Lib.hid (by rw [HE.out, hE'])
        have HN2 : Hid (sN 0 n r l = 64) := Lib.hid (by rw [HN.out, if_pos hE'])
        have HA := Lib.hid hA'
        have HB := Lib.hid hB
        have hk' : n ≤ k := by omega
        clear hA hP hB hE hE' hA' RD
        go_wp2
        go_ret2
        exact ⟨_, by rw [HE2.out]; rfl, by rw [HN2.out]; exact .inr ⟨go, 64, rfl, p1, HA.out.lt (by omega), Nat.le_refl _, by decide, HA.out⟩, HB.out⟩

set_option maxRecDepth 100000 in
set_option maxHeartbeats 4000000 in
theorem rspread_in1 (v : Value) (a : Option Addr) (n c : Nat) (hv : v = .slice a n c) (r l : Nat → Int) (w : World) (hs : Pl w v n r l) (hn : n ≤ 1000) :
    Calls Tryz.prog 51 #[v, .int .i64 1] w (Spreads w 1 n r l) := by
  subst hv
  have RD : Hid (∀ i, i < n → ∃ b o, a = some ⟨b, o, none⟩ ∧ b < w.heap.size ∧ Pairs w b o n r l) := Lib.hid (by
    obtain ⟨a', c', he, _, _, h3⟩ := hs
    cases he
    intro i hi
    rcases h3 with ⟨h0, _⟩ | ⟨b, o, rfl, hb, hI⟩
    · omega
    · exact ⟨b, o, rfl, hb, hI⟩)
  have HE : Hid (sE 1 n r l = spE 1 r l n) := Lib.hid (by unfold sE; rw [if_pos (by decide)])
  have HN : Hid (sN 1 n r l = if spE 1 r l n = 0 then 64 else 0) := Lib.hid (by unfold sN; rw [HE.out])
  have hmk := make64s
  clear hs
  go_enter Tryz.func51, Tryz.ntmps51
  go_upto_region 3 with fail
  go_cut [6, 7, 8] from 16 (fun u6 u7 u8 wx => ZP w wx u6 u7 u8 1)
  case first =>
    go_region_with (go_at_call 77; refine (rorder_any _).mono ?_; rintro e w1 ⟨rfl, rfl⟩)
    all_goals (go_wp2_with fail; go_meet)
    all_goals first
      | exact zp_a w 3 1
      | exact zp_b w 3 1
  case rest =>
    obtain ⟨go, gp, rfl, rfl, rfl, hne, p1, p2, hA, hP, hB⟩ := hcut
    have HA := Lib.hid hA
    have HP := Lib.hid hP
    have HB := Lib.hid hB
    clear hA hP hB hmk
    go_wp2_with fail
    go_loopw [7, 9] (fun at_ i wr => ∃ k : Nat, k ≤ n ∧ at_ = .int .i64 (spA 1 r k) ∧ i = .int .i64 k ∧ spE 1 r l k = 0 ∧ Arr wr .i64 go 64 (spF 1 r l k) ∧ Arr wr .i64 gp 64 plF ∧ Below w.heap.size w wr) (fun _ i _ => n - (intOf i).toNat)
    case atStart => exact ⟨0, by omega, rfl, rfl, rfl, HA.out, HP.out, HB.out⟩
    case round =>
      obtain ⟨k, hk, rfl, rfl, hE, hA, hP, hB⟩ := hrel
      by_cases hkn : k < n
      · obtain ⟨b, o, rfl, hb, hI⟩ := RD.out k hkn
        obtain ⟨c1, c2⟩ := (hI.below hB hb) k hkn
        have kb : (0 : Int) ≤ (k : Int) ∧ (k : Int) < (n : Int) := by omega
        have ab := spA_bd (by decide) k hE
        have se := spE_succ 1 r l k
        rw [if_neg (by rw [hE]; simp)] at se
        obtain ⟨A, hAA⟩ : ∃ A, A = spA 1 r k := ⟨_, rfl⟩
        have sa : Hid (spA 1 r (k + 1) = A + r k + 1) := Lib.hid (by rw [hAA]; rfl)
        have sf : Hid (∀ p, p = at' (A + r k).toNat → spF 1 r l (k + 1) = fun i => if i = p then l k else spF 1 r l k i) := Lib.hid (by rw [hAA]; rintro p rfl; rfl)
        rw [← hAA] at ab se ⊢
        have HA := Lib.hid hA
        have HP := Lib.hid hP
        have HB := Lib.hid hB
        clear hA hP hB hI hE hAA
        by_cases g1 : l k = 0 ∨ lvl (l k) = false
        · rw [if_pos g1] at se
          have ES : Hid (spE 1 r l n = 10) := Lib.hid (by rw [spE_stay (by rw [se]; simp) n (by omega), se])
          clear se
          by_cases g0 : l k = 0
          · have kz : (l k == 0) = true := by simp [g0]
            go_wp2
            go_ret2
            exact ⟨.slice none 0 0, by rw [HE.out, ES.out]; rfl, by rw [HN.out, ES.out]; exact .inl ⟨rfl, rfl⟩, HB.out⟩
          · have kz : (l k == 0) = false := by simp [g0]
            have gl : ¬ (-127 ≤ l k ∧ l k ≤ 127) := by
              rcases g1 with g1 | g1
              · exact absurd g1 g0
              · simpa [lvl] using g1
            by_cases g3 : l k < -127
            · have d1 : decide (l k < -127) = true := by simp; omega
              go_wp2
              go_ret2
              exact ⟨.slice none 0 0, by rw [HE.out, ES.out]; rfl, by rw [HN.out, ES.out]; exact .inl ⟨rfl, rfl⟩, HB.out⟩
            · have d1 : decide (l k < -127) = false := by simp; omega
              have d2 : decide (127 < l k) = true := by simp; omega
              go_wp2
              go_ret2
              exact ⟨.slice none 0 0, by rw [HE.out, ES.out]; rfl, by rw [HN.out, ES.out]; exact .inl ⟨rfl, rfl⟩, HB.out⟩
        · rw [if_neg g1] at se
          have g0 : l k ≠ 0 := fun e => g1 (.inl e)
          have gl : -127 ≤ l k ∧ l k ≤ 127 := by
            by_cases e : -127 ≤ l k ∧ l k ≤ 127
            · exact e
            · exact absurd (.inr (by unfold lvl; simpa using e)) g1
          have kz : (l k == 0) = false := by simp [g0]
          have d3 : decide (l k < -127) = false := by simp; omega
          have d4 : decide (127 < l k) = false := by simp; omega
          clear g1
          by_cases g2 : r k < 0 ∨ 63 - A < r k
          · rw [if_pos g2] at se
            have ES : Hid (spE 1 r l n = 11) := Lib.hid (by rw [spE_stay (by rw [se]; simp) n (by omega), se])
            clear se
            by_cases g3 : r k < 0
            · have d1 : decide (r k < 0) = true := by simp [g3]
              go_wp2
              go_ret2
              exact ⟨.slice none 0 0, by rw [HE.out, ES.out]; rfl, by rw [HN.out, ES.out]; exact .inl ⟨rfl, rfl⟩, HB.out⟩
            · have d1 : decide (r k < 0) = false := by simp; omega
              have d2 : decide (63 - A < r k) = true := by simp; omega
              go_wp2
              go_ret2
              exact ⟨.slice none 0 0, by rw [HE.out, ES.out]; rfl, by rw [HN.out, ES.out]; exact .inl ⟨rfl, rfl⟩, HB.out⟩
          · rw [if_neg g2] at se
            have SE := Lib.hid se
            have d1 : decide (r k < 0) = false := by simp; omega
            have d2 : decide (63 - A < r k) = false := by simp; omega
            obtain ⟨q, hq⟩ : ∃ q : Nat, A + r k = (q : Int) := ⟨(A + r k).toNat, by omega⟩
            have q64 : q < 64 := by omega
            have qb : (0 : Int) ≤ (q : Int) ∧ (q : Int) < 64 := by omega
            obtain ⟨p, hp⟩ : ∃ p, p = at' q := ⟨_, rfl⟩
            have p64 : p < 64 := by rw [hp]; exact at_lt0 q q64
            have pb : (0 : Int) ≤ (p : Int) ∧ (p : Int) < 64 := by omega
            have PE : plF q = (p : Int) := by rw [hp]; rfl
            have FE := Lib.hid (sf.out p (by rw [hq, hp]; rfl))
            have cP := (HP.out q q64).1
            rw [PE] at cP
            have cA := HA.out p p64
            have x1 : IntKind.i64.wrap (A + r k) = A + r k := IntWalk.i64_in _ (by omega)
            clear se g2 hp PE sf
            go_wp2_with fail
            go_region
            go_wp2
            go_roundw
            case rel =>
              refine ⟨k + 1, by omega, by rw [sa.out, hq], by go_num, SE.out, ?_, ?_, ?_⟩
              · rw [FE.out]
                exact (HA.out.set p (l k)).drew
              · exact (HP.out.far (a := ⟨go, p, none⟩) hne _).drew
              · exact (HB.out.setCell (p := ⟨go, p, none⟩) p1 _).drew
            case measure => simp [intOf]; omega
      · have hE' : spE 1 r l n = 0 := by
          obtain rfl : k = n := by omega
          exact hE
        have hA' : Arr wr .i64 go 64 (spF 1 r l n) := by
          obtain rfl : k = n := by omega
          exact hA
        have HE2 : Hid (sE 1 n r l = 0) := Lib.hid (by rw [HE.out, hE'])
        have HN2 : Hid (sN 1 n r l = 64) := Lib.hid (by rw [HN.out, if_pos hE'])
        have HA := Lib.hid hA'
        have HB := Lib.hid hB
        have hk' : n ≤ k := by omega
        clear hA hP hB hE hE' hA' RD
        go_wp2
        go_ret2
        exact ⟨_, by rw [HE2.out]; rfl, by rw [HN2.out]; exact .inr ⟨go, 64, rfl, p1, HA.out.lt (by omega), Nat.le_refl _, by decide, HA.out⟩, HB.out⟩
theorem rSpread_any (v : Value) (first : Int) (n : Nat) (r l : Nat → Int) (w : World) (hs : Pl w v n r l) (hn : n ≤ 1000) :
    Calls Tryz.prog 51 #[v, .int .i64 first] w (Spreads w first n r l) := by
  by_cases hf : first = 0 ∨ first = 1
  · have hs' := hs
    obtain ⟨a, c, hv, _⟩ := hs'
    rcases hf with rfl | rfl
    · exact rspread_in0 v a n c hv r l w hs hn
    · exact rspread_in1 v a n c hv r l w hs hn
  · exact rspread_first v first n r l w hf
end Sc
end Go.Proofs.YtpibeocngkjolaaGreatDoor

namespace Go.Proofs.YtpibeocngkjolaaGreatDoor
open Go.RowKit
set_option linter.unusedSimpArgs false
set_option linter.unusedVariables false
namespace Bk
open Sc Qu
theorem rcode_any (x : Int) (w : World) : Calls Tryz.prog 40 #[.int .i64 x] w fun e w' => e = .returned (.bool (decide (1 ≤ x) && decide (x ≤ 255) && (x != 128))) ∧ w = w' := by
  by_cases h1 : 1 ≤ x <;> by_cases h2 : x ≤ 255 <;> by_cases h3 : x = 128 <;>
  · go_enter Tryz.func40, Tryz.ntmps40
    go_wp2_with fail
    go_ret
    simp [*]
theorem rfirst_any (i : Bool) (w : World) : Calls Tryz.prog 38 #[.bool i] w fun e w' => e = .returned (.int .i64 (fst i)) ∧ w = w' := by
  cases i <;>
  · go_enter Tryz.func38, Tryz.ntmps38
    go_wp2_with fail
    go_ret
    exact ⟨rfl, rfl⟩

/-- a code that may be. -/
def cdB (x : Int) : Bool := decide (1 ≤ x) && decide (x ≤ 255) && (x != 128)
theorem cdB_dE (dc : Int) (n : Nat) : dE dc n true = if cdB dc then 0 else 10 := by
  unfold dE cdB
  by_cases h1 : dc < 1
  · rw [show decide (1 ≤ dc) = false from decide_eq_false (by omega)]; simp [h1]
  · by_cases h2 : 255 < dc
    · rw [show decide (dc ≤ 255) = false from decide_eq_false (by omega)]; simp [h2]
    · by_cases h3 : dc = 128
      · subst h3; rfl
      · rw [show decide (1 ≤ dc) = true from decide_eq_true (by omega), show decide (dc ≤ 255) = true from decide_eq_true (by omega)]
        simp [h3]; omega
section
set_option maxRecDepth 100000
set_option maxHeartbeats 2000000
variable (dc : Int) (q : Option Addr) (n c : Nat) (r l : Nat → Int) (w : World)
/-- a block whose first code may be: what its pairs tell. -/
theorem rCheck_pairs (i : Bool) (hn : n ≤ 1000) (hp : Pl w (.slice q n c) n r l) (h0 : dE dc n i = 0) :
    Calls Tryz.prog 24 #[bv dc q n c, .bool i] w fun e w' => e = .returned (.int .i64 (sE (fst i) n r l)) ∧ Below w.heap.size w w' := by
  have HB := Lib.hid ((Below.refl w.heap.size w).alloc (Nat.le_refl _) (.cells #[.int .i64 dc, .slice q n c] 27))
  have HA := Lib.hid (At.new w #[.int .i64 dc, .slice q n c] 27)
  have HS : Hid (∀ V, Pl V (.slice q n c) n r l → Calls Tryz.prog 51 #[.slice q n c, .int .i64 (fst i)] V fun e w' => ∃ v, e = .returned (.tuple #[v, .int .i64 (sE (fst i) n r l)]) ∧ Res .i64 V.heap.size w' v (sN (fst i) n r l) (spF (fst i) r l n) ∧ Below V.heap.size V w') := Lib.hid (fun V h => rSpread_any _ (fst i) n r l V h hn)
  have HP := Lib.hid (hp.below (HB.out.drew))
  have k0 := HA.out.cell 0 _ rfl
  have k1 := HA.out.cell 1 _ rfl
  obtain ⟨E, hE⟩ : ∃ E, sE (fst i) n r l = E := ⟨_, rfl⟩
  obtain ⟨SN, hN⟩ : ∃ x, sN (fst i) n r l = x := ⟨_, rfl⟩
  obtain ⟨SF, hF⟩ : ∃ x, spF (fst i) r l n = x := ⟨_, rfl⟩
  rw [hE, hN, hF] at HS
  rw [hE]
  have HB := Lib.hid HB.out.drew
  have HA := Lib.hid (HA.out.below (Below.refl _ _).drew)
  clear hp hE hN hF
  cases i with
  | true =>
    have hcd : (decide (1 ≤ dc) && decide (dc ≤ 255) && (dc != 128)) = true := by
      have := cdB_dE dc n
      rw [h0] at this
      unfold cdB at this
      by_cases h : (decide (1 ≤ dc) && decide (dc ≤ 255) && (dc != 128)) = true
      · exact h
      · rw [if_neg h] at this; cases this
    have HCD := Lib.hid (fun V => rcode_any dc V)
    rw [hcd] at HCD
    clear h0 hcd
    go_enter Tryz.func24, Tryz.ntmps24
    go_upto_region 5 with (go_at_call 40; refine (HCD.out _).mono ?_; rintro e w1 ⟨rfl, rfl⟩)
    clear k0 k1
    have k1 := HA.out.cell 1 _ rfl
    go_region_with (first
      | (go_at_call 38; refine (rfirst_any _ _).mono ?_; rintro e w1 ⟨rfl, rfl⟩)
      | (go_at_call 51; refine (HS.out _ HP.out).mono ?_; rintro e w2 ⟨v, rfl, _, h2⟩; have HB := Lib.hid (chain HB.out h2); clear h2))
    all_goals (go_wp2_with fail; go_ret; exact ⟨rfl, HB.out⟩)
  | false =>
    have hd : dc = 0 ∧ n ≠ 0 := by
      unfold dE at h0
      by_cases h : dc ≠ 0 ∨ n = 0
      · rw [if_neg (by decide), if_pos h] at h0; cases h0
      · omega
    have d1 : (dc != 0) = false := by simp [hd.1]
    have d2 : ((n : Int) == 0) = false := by simp; omega
    clear h0 hd
    go_enter Tryz.func24, Tryz.ntmps24
    go_upto_region 5 with fail
    clear k0 k1
    have k1 := HA.out.cell 1 _ rfl
    go_region_with (first
      | (go_at_call 38; refine (rfirst_any _ _).mono ?_; rintro e w1 ⟨rfl, rfl⟩)
      | (go_at_call 51; refine (HS.out _ HP.out).mono ?_; rintro e w2 ⟨v, rfl, _, h2⟩; have HB := Lib.hid (chain HB.out h2); clear h2))
    all_goals (go_wp2_with fail; go_ret; exact ⟨rfl, HB.out⟩)
theorem rCheck_no (i : Bool) (h0 : dE dc n i ≠ 0) :
    Calls Tryz.prog 24 #[bv dc q n c, .bool i] w fun e w' => e = .returned (.int .i64 (dE dc n i)) ∧ Below w.heap.size w w' := by
  have HB := Lib.hid ((Below.refl w.heap.size w).alloc (Nat.le_refl _) (.cells #[.int .i64 dc, .slice q n c] 27))
  have HA := Lib.hid (At.new w #[.int .i64 dc, .slice q n c] 27)
  have k0 := HA.out.cell 0 _ rfl
  have k1 := HA.out.cell 1 _ rfl
  cases i with
  | true =>
    have e := cdB_dE dc n
    have hcd : (decide (1 ≤ dc) && decide (dc ≤ 255) && (dc != 128)) = false := by
      unfold cdB at e
      cases h : (decide (1 ≤ dc) && decide (dc ≤ 255) && (dc != 128))
      · rfl
      · rw [h, if_pos rfl] at e; exact absurd e h0
    have HCD := Lib.hid (fun V => rcode_any dc V)
    rw [hcd] at HCD
    rw [e, show cdB dc = false from hcd, if_neg (by decide)]
    clear h0 hcd e
    go_enter Tryz.func24, Tryz.ntmps24
    go_wp2_with (go_at_call 40; refine (HCD.out _).mono ?_; rintro e w1 ⟨rfl, rfl⟩)
    go_ret
    exact ⟨rfl, HB.out⟩
  | false =>
    have e : dE dc n false = 2 := by
      unfold dE at h0 ⊢
      rw [if_neg (by decide)] at h0 ⊢
      by_cases h : dc ≠ 0 ∨ n = 0
      · rw [if_pos h]
      · rw [if_neg h] at h0; exact absurd rfl h0
    have hd : dc ≠ 0 ∨ n = 0 := by
      unfold dE at e
      rw [if_neg (by decide)] at e
      by_cases h : dc ≠ 0 ∨ n = 0
      · exact h
      · rw [if_neg h] at e; cases e
    rw [e]
    clear h0 e
    by_cases h1 : dc = 0
    · have d1 : (dc != 0) = false := by simp [h1]
      have h2 : n = 0 := by omega
      have d2 : ((n : Int) == 0) = true := by simp [h2]
      clear hd h1 h2
      go_enter Tryz.func24, Tryz.ntmps24
      go_wp2_with fail
      go_ret
      exact ⟨rfl, HB.out⟩
    · have d1 : (dc != 0) = true := by simp [h1]
      clear hd h1
      go_enter Tryz.func24, Tryz.ntmps24
      go_wp2_with fail
      go_ret
      exact ⟨rfl, HB.out⟩
theorem rCheck_any (i : Bool) (hn : n ≤ 1000) (hp : Pl w (.slice q n c) n r l) :
    Calls Tryz.prog 24 #[bv dc q n c, .bool i] w fun e w' => e = .returned (.int .i64 (bE dc n r l i)) ∧ Below w.heap.size w w' := by
  unfold bE
  by_cases h : dE dc n i = 0
  · rw [if_neg (by simp [h])]
    exact rCheck_pairs dc q n c r l w i hn hp h
  · rw [if_pos h]
    exact rCheck_no dc q n c w i h
end

section
set_option maxRecDepth 100000
set_option maxHeartbeats 2000000
variable (dc : Int) (q : Option Addr) (n c : Nat) (r l : Nat → Int) (i : Bool)
theorem rLevels_any (hn : n ≤ 1000) (w : World) (hp : Pl w (.slice q n c) n r l) :
    Calls Tryz.prog 21 #[bv dc q n c, .bool i] w fun e w' => ∃ v, e = .returned (.tuple #[v, .int .i64 (bE dc n r l i)]) ∧ Res .i64 w.heap.size w' v (lN dc n r l i) (spF (fst i) r l n) ∧ Below w.heap.size w w' := by
  have HC := Lib.hid (fun V (h : Pl V (.slice q n c) n r l) => rCheck_any dc q n c r l V i hn h)
  have HE := Lib.hid (@bE_sE dc n r l i)
  have HN : lN dc n r l i = if bE dc n r l i = 0 then 64 else 0 := rfl
  obtain ⟨E, hE⟩ : ∃ E, bE dc n r l i = E := ⟨_, rfl⟩
  rw [hE] at HC HE HN
  rw [hE, HN]
  clear hE HN
  have HS : Hid (∀ V, Pl V (.slice q n c) n r l → Calls Tryz.prog 51 #[.slice q n c, .int .i64 (fst i)] V fun e w' => ∃ v, e = .returned (.tuple #[v, .int .i64 (sE (fst i) n r l)]) ∧ Res .i64 V.heap.size w' v (sN (fst i) n r l) (spF (fst i) r l n) ∧ Below V.heap.size V w') := Lib.hid (fun V h => rSpread_any _ (fst i) n r l V h hn)
  have HB := Lib.hid ((Below.refl w.heap.size w).alloc (Nat.le_refl _) (.cells #[.int .i64 dc, .slice q n c] 27))
  have HA := Lib.hid (At.new w #[.int .i64 dc, .slice q n c] 27)
  have HP := Lib.hid (hp.below HB.out)
  have k0 := HA.out.cell 0 _ rfl
  have k1 := HA.out.cell 1 _ rfl
  have z0 : sN (fst i) n r l = if sE (fst i) n r l = 0 then 64 else 0 := rfl
  obtain ⟨SE, hSE⟩ : ∃ x, sE (fst i) n r l = x := ⟨_, rfl⟩
  obtain ⟨SN, hSN⟩ : ∃ x, sN (fst i) n r l = x := ⟨_, rfl⟩
  obtain ⟨SF, hSF⟩ : ∃ x, spF (fst i) r l n = x := ⟨_, rfl⟩
  rw [hSE] at HE
  rw [hSE, hSN] at z0
  rw [hSE, hSN, hSF] at HS
  rw [hSF]
  clear hSE hSN hSF hp
  by_cases h0 : E = 0
  · have e0 : SE = 0 := HE.out h0
    rw [e0] at HS z0
    rw [z0] at HS
    simp only [if_pos] at HS
    subst h0
    have e1 : ((0 : Int) != 0) = false := by decide
    clear e0 z0
    go_enter Tryz.func21, Tryz.ntmps21
    go_upto_region 4 with (go_at_call 24; refine (HC.out _ HP.out).mono ?_; rintro e w1 ⟨rfl, h1⟩; have HB := Lib.hid (chain HB.out h1); have HA := Lib.hid (HA.out.below h1); have HP := Lib.hid (HP.out.below h1); clear h1 k0 k1)
    have hz := HB.out.size
    have HB := Lib.hid HB.out.drew
    have HA := Lib.hid (HA.out.below (Below.refl _ _).drew)
    have HP := Lib.hid (HP.out.below (Below.refl _ _).drew)
    have k1 := HA.out.cell 1 _ rfl
    go_region_with (first
      | (go_at_call 38; refine (rfirst_any _ _).mono ?_; rintro e w2 ⟨rfl, rfl⟩)
      | (go_at_call 51; refine (HS.out _ HP.out).mono ?_; rintro e w2 ⟨v, rfl, hR, h2⟩; have HR := Lib.hid (Res.base hR hz); have HB := Lib.hid (chain HB.out h2); clear h2 hR))
    all_goals (go_wp2_with fail; go_ret2; exact ⟨_, rfl, HR.out, HB.out⟩)
  · have e1 : (E != 0) = true := by simpa using h0
    rw [if_neg h0]
    clear h0 z0
    go_enter Tryz.func21, Tryz.ntmps21
    go_wp2_with (go_at_call 24; refine (HC.out _ HP.out).mono ?_; rintro e w1 ⟨rfl, h1⟩; have HB := Lib.hid (chain HB.out h1); clear h1 k0 k1)
    go_ret2
    exact ⟨_, rfl, .inl ⟨rfl, rfl⟩, HB.out⟩
theorem okAll_no (f : Nat → Int) (q : Int) (h : q < 1 ∨ 31 < q) : okAll f q 64 = false := okAll_not (i := 0) (by omega) (by unfold okB; exact decide_eq_false (by omega))
theorem rResidue_any (by' : Int) (hn : n ≤ 1000) (w : World) (hp : Pl w (.slice q n c) n r l) :
    Calls Tryz.prog 27 #[bv dc q n c, .int .i64 by', .bool i] w fun e w' => ∃ v, e = .returned (.tuple #[v, .int .i64 (rsE dc n r l i by')]) ∧ Res .i64 w.heap.size w' v (rsN dc n r l i by') (Co.invC (wF dc n r l i by')) ∧ Below w.heap.size w w' := by
  have HL := Lib.hid (fun V (h : Pl V (.slice q n c) n r l) => rLevels_any dc q n c r l i hn V h)
  have HB := Lib.hid ((Below.refl w.heap.size w).alloc (Nat.le_refl _) (.cells #[.int .i64 dc, .slice q n c] 27))
  have HA := Lib.hid (At.new w #[.int .i64 dc, .slice q n c] 27)
  have HP := Lib.hid (hp.below HB.out)
  have k0 := HA.out.cell 0 _ rfl
  have k1 := HA.out.cell 1 _ rfl
  clear hp
  by_cases h0 : bE dc n r l i = 0
  · rw [h0, show lN dc n r l i = 64 from if_pos h0] at HL
    obtain ⟨F, hF⟩ : ∃ F, spF (fst i) r l n = F := ⟨_, rfl⟩
    have bF : ∀ p, -127 ≤ F p ∧ F p ≤ 127 := fun p => by rw [← hF]; exact sp_levels i n r l (bE_sE h0) p
    have HIr := Lib.hid (fun V v (hs : Sl .i64 V v 64 F) => rInter_any v 64 F by' V hs)
    have HIa := Lib.hid (fun V v (hs : Sl .i64 V v 64 F) => rIntra_any v 64 F by' dc V hs)
    unfold Inters at HIr
    unfold Intras at HIa
    by_cases hq : by' < 1 ∨ 31 < by'
    · have e3 : rsE dc n r l i by' = 3 := by unfold rsE; rw [if_neg (by simp [h0]), if_pos hq]
      rw [e3, show rsN dc n r l i by' = 0 by unfold rsN; rw [e3]; rfl]
      have n1 : iE 64 F by' = 3 := by unfold iE; rw [if_pos rfl, okAll_no F by' hq]; rfl
      have n2 : iN 64 F by' = 0 := by unfold iN; rw [if_pos rfl, okAll_no F by' hq]; rfl
      have n3 : aE 64 F by' dc = 3 := by unfold aE; rw [n1]; rfl
      rw [n1, n2] at HIr
      rw [n3] at HIa
      obtain ⟨R, hR⟩ : ∃ R, Co.invC (wF dc n r l i by') = R := ⟨_, rfl⟩
      rw [hR]
      rw [hF] at HL
      clear hR hF bF h0 e3 n1 n2 n3 hq
      cases i with
      | false =>
        go_enter Tryz.func27, Tryz.ntmps27
        go_wp2_with (first
          | (go_at_call 21; refine (HL.out _ HP.out).mono ?_; rintro e w1 ⟨v1, rfl, hR, h1⟩; have HB := Lib.hid (chain HB.out h1); have HR1 := Lib.hid hR; clear h1 hR k0 k1)
          | (go_at_call 57; refine (HIr.out _ _ HR1.out.sl).mono ?_; rintro e w2 ⟨v2, rfl, _, h1⟩; have HB := Lib.hid (chain HB.out h1); clear h1))
        go_ret2
        exact ⟨_, rfl, .inl ⟨rfl, rfl⟩, HB.out⟩
      | true =>
        go_enter Tryz.func27, Tryz.ntmps27
        go_wp2_with (first
          | (go_at_call 21; refine (HL.out _ HP.out).mono ?_; rintro e w1 ⟨v1, rfl, hR, h1⟩; have HB := Lib.hid (chain HB.out h1); have HR1 := Lib.hid hR; have HA := Lib.hid (HA.out.below h1); clear h1 hR k0 k1)
          | (go_at_call 57; refine (HIr.out _ _ HR1.out.sl).mono ?_; rintro e w2 ⟨v2, rfl, _, h1⟩; have HB := Lib.hid (chain HB.out h1); have HR1 := Lib.hid (HR1.out.sl.below h1); have HA := Lib.hid (HA.out.below h1); have k0 := HA.out.cell 0 _ rfl; clear h1)
          | (go_at_call 58; refine (HIa.out _ _ HR1.out).mono ?_; rintro e w2 ⟨v2, rfl, _, h1⟩; have HB := Lib.hid (chain HB.out h1); clear h1 k0))
        go_ret2
        exact ⟨_, rfl, .inl ⟨rfl, rfl⟩, HB.out⟩
    · have e3 : rsE dc n r l i by' = 0 := by unfold rsE; rw [if_neg (by simp [h0]), if_neg hq]
      rw [e3, show rsN dc n r l i by' = 64 by unfold rsN; rw [e3]; rfl]
      have okA := ok_all F by' (by omega) (by omega) bF
      have okI := ok_v _ (wF_bd dc n r l i by' (by omega))
      have n1 : iE 64 F by' = 0 := by unfold iE; rw [if_pos rfl, okA]; rfl
      have n2 : iN 64 F by' = 64 := by unfold iN; rw [if_pos rfl, okA]; rfl
      have HI : Hid (∀ V v, Sl .i64 V v 64 (wF dc n r l i by') → Calls Tryz.prog 59 #[v] V fun e w' => ∃ v', e = .returned (.tuple #[v', .int .i64 0]) ∧ Res .i64 V.heap.size w' v' 64 (Co.invC (wF dc n r l i by')) ∧ Below V.heap.size V w') := Lib.hid (fun V v hs => by
        have := Co.rInverse_any v 64 _ V hs
        unfold Co.Inverts at this
        rw [show Co.vE 64 (wF dc n r l i by') = 0 by unfold Co.vE; rw [if_pos rfl, okI]; rfl, show Co.vN 64 (wF dc n r l i by') = 64 by unfold Co.vN; rw [if_pos rfl, okI]; rfl] at this
        exact this)
      rw [n1, n2] at HIr
      have HE := bE_dE h0
      cases i with
      | false =>
        rw [show (fun j => val (F j) by') = wF dc n r l false by' by unfold wF; rw [← hF]; rfl] at HIr
        obtain ⟨G, hG⟩ : ∃ G, wF dc n r l false by' = G := ⟨_, rfl⟩
        rw [hG] at HI HIr
        rw [hG]
        obtain ⟨R, hR⟩ : ∃ R, Co.invC G = R := ⟨_, rfl⟩
        rw [hR] at HI
        rw [hR]
        rw [hF] at HL
        clear hR hF bF h0 hG okA okI e3 n1 n2 hq HE HIa
        go_enter Tryz.func27, Tryz.ntmps27
        go_wp2_with (first
          | (go_at_call 21; refine (HL.out _ HP.out).mono ?_; rintro e w1 ⟨v1, rfl, hR, h1⟩; have HB := Lib.hid (chain HB.out h1); have HR1 := Lib.hid hR; clear h1 hR k0 k1)
          | (go_at_call 57; refine (HIr.out _ _ HR1.out.sl).mono ?_; rintro e w2 ⟨v2, rfl, hR, h1⟩; have HB := Lib.hid (chain HB.out h1); have HR2 := Lib.hid hR; clear h1 hR)
          | (go_at_call 59; refine (HI.out _ _ HR2.out.sl).mono ?_; rintro e w3 ⟨v3, rfl, hR, h1⟩; have sz := HB.out.size; have HB := Lib.hid (chain HB.out h1); have HR3 := Lib.hid hR; clear h1 hR))
        go_ret2
        exact ⟨_, rfl, Res.base HR3.out sz, HB.out⟩
      | true =>
        have e0 := dE_dcE HE
        rw [show aE 64 F by' dc = 0 by unfold aE; rw [if_pos n1, e0], show aN 64 F by' dc = 64 by unfold aN; rw [if_pos ⟨n1, e0⟩], show aV F by' dc = wF dc n r l true by' by unfold wF; rw [← hF]; rfl] at HIa
        obtain ⟨G, hG⟩ : ∃ G, wF dc n r l true by' = G := ⟨_, rfl⟩
        rw [hG] at HI HIa
        rw [hG]
        obtain ⟨R, hR⟩ : ∃ R, Co.invC G = R := ⟨_, rfl⟩
        rw [hR] at HI
        rw [hR]
        rw [hF] at HL
        clear hR hF bF h0 hG okA okI e0 e3 n1 n2 hq HE
        go_enter Tryz.func27, Tryz.ntmps27
        go_wp2_with (first
          | (go_at_call 21; refine (HL.out _ HP.out).mono ?_; rintro e w1 ⟨v1, rfl, hR, h1⟩; have HB := Lib.hid (chain HB.out h1); have HR1 := Lib.hid hR; have HA := Lib.hid (HA.out.below h1); clear h1 hR k0 k1)
          | (go_at_call 57; refine (HIr.out _ _ HR1.out.sl).mono ?_; rintro e w2 ⟨v2, rfl, _, h1⟩; have HB := Lib.hid (chain HB.out h1); have HR1 := Lib.hid (HR1.out.sl.below h1); have HA := Lib.hid (HA.out.below h1); have k0 := HA.out.cell 0 _ rfl; clear h1)
          | (go_at_call 58; refine (HIa.out _ _ HR1.out).mono ?_; rintro e w2 ⟨v2, rfl, hR, h1⟩; have HB := Lib.hid (chain HB.out h1); have HR2 := Lib.hid hR; clear h1 hR k0)
          | (go_at_call 59; refine (HI.out _ _ HR2.out.sl).mono ?_; rintro e w3 ⟨v3, rfl, hR, h1⟩; have sz := HB.out.size; have HB := Lib.hid (chain HB.out h1); have HR3 := Lib.hid hR; clear h1 hR))
        go_ret2
        exact ⟨_, rfl, Res.base HR3.out sz, HB.out⟩
  · obtain ⟨E, hE⟩ : ∃ E, bE dc n r l i = E := ⟨_, rfl⟩
    have e3 : rsE dc n r l i by' = E := by unfold rsE; rw [if_pos h0, hE]
    rw [e3, show rsN dc n r l i by' = 0 by unfold rsN; rw [e3, ← hE, if_neg h0]]
    clear e3
    rw [show lN dc n r l i = 0 from if_neg h0, hE] at HL
    rw [hE] at h0
    have t1 : (E != 0) = true := by simp [h0]
    obtain ⟨R, hR⟩ : ∃ R, Co.invC (wF dc n r l i by') = R := ⟨_, rfl⟩
    obtain ⟨F, hF⟩ : ∃ F, spF (fst i) r l n = F := ⟨_, rfl⟩
    rw [hR]
    rw [hF] at HL
    clear hR hF h0 hE
    go_enter Tryz.func27, Tryz.ntmps27
    go_wp2_with (go_at_call 21; refine (HL.out _ HP.out).mono ?_; rintro e w1 ⟨v1, rfl, hR, h1⟩; have HB := Lib.hid (chain HB.out h1); clear h1 hR k0 k1)
    go_ret2
    exact ⟨_, rfl, .inl ⟨rfl, rfl⟩, HB.out⟩
end
end Bk
end Go.Proofs.YtpibeocngkjolaaGreatDoor

namespace Go.Proofs.YtpibeocngkjolaaGreatDoor
open Go.RowKit
set_option linter.unusedSimpArgs false
set_option linter.unusedVariables false
namespace Dk
open Bk Sc Qu Co
theorem acc_one (D : Int) (h0 : 0 ≤ D) (hD : D ≤ 1099511627776) (x : Nat) (hx : x < 8) : ∀ n, n ≤ 8 → accW (fun u => if u = 0 then D else 0) x n = if n = 0 then 0 else 1448 * D
  | 0, _ => rfl
  | n + 1, hn => by
    have ih := acc_one D h0 hD x hx n (by omega)
    rw [if_neg (by omega)]
    by_cases hz : n = 0
    · subst hz
      by_cases hd : D = 0
      · rw [accW_zero (by rw [if_pos rfl]; exact hd), ih, if_pos rfl, hd]
        rfl
      · rw [accW_not (by rw [if_pos rfl]; exact hd), ih, if_pos rfl, if_pos rfl, wtF_at 0 x hx]
        have e : Wt 0 x = 1448 := by unfold Wt; rw [if_pos rfl]
        rw [e, IntWalk.wrap64_in (1448 * D) (by omega), IntWalk.wrap64_in _ (by omega)]
        omega
    · rw [accW_zero (by rw [if_neg hz]), ih, if_neg hz]
theorem acc_nil (x : Nat) : ∀ n, accW (fun _ => 0) x n = 0
  | 0 => rfl
  | n + 1 => by
    have e := accW_zero (l := fun _ => (0 : Int)) (u := n) rfl x
    rw [e, acc_nil x n]
theorem flat_inv {c : Int} (h1 : 1 ≤ c) (h2 : c ≤ 255) (h3 : c ≠ 128) (r l : Nat → Int) (q : Int) {i : Nat} (hi : i < 64) : invC (wF c 0 r l true q) i = if c = 255 then 128 else c := by
  obtain ⟨D, hD⟩ : ∃ D, dcV c = D := ⟨_, rfl⟩
  have eD : D = if c = 255 then 1024 else 8 * c := by
    rw [← hD]
    unfold dcV
    rw [if_neg (by omega), if_neg (by omega)]
  have eW : wF c 0 r l true q = fun p => if p = 0 then D else 0 := by
    funext p
    unfold wF
    rw [if_pos rfl]
    unfold aV
    rw [hD]
    rfl
  have bD : 0 ≤ D ∧ D ≤ 2040 := by rw [eD]; split <;> omega
  have eR : ∀ p, p < 64 → rowsC (fun p => if p = 0 then D else 0) p = if p / 8 = 0 then 1448 * D else 0 := by
    intro p hp
    unfold rowsC
    by_cases h : p / 8 = 0
    · rw [if_pos h]
      have e : (fun u => if 8 * (p / 8) + u = 0 then D else 0) = fun u => if u = 0 then D else 0 := by
        funext u
        rw [h, Nat.mul_zero, Nat.zero_add]
      rw [e, acc_one D bD.1 (by omega) _ (by omega) 8 (by omega), if_neg (by omega)]
    · rw [if_neg h]
      have e : (fun u => if 8 * (p / 8) + u = 0 then D else 0) = fun _ => (0 : Int) := by
        funext u
        rw [if_neg (by omega)]
      rw [e, acc_nil]
  have eC : colsC (rowsC (fun p => if p = 0 then D else 0)) i = 1448 * (1448 * D) := by
    unfold colsC
    rw [accW_congr (m := fun u => if u = 0 then 1448 * D else 0) (fun u hu => by
      rw [eR _ (by omega)]
      by_cases h : u = 0
      · rw [if_pos (by omega), if_pos h]
      · rw [if_neg (by omega), if_neg h]), acc_one (1448 * D) (by omega) (by omega) _ (by omega) 8 (by omega), if_neg (by omega)]
  rw [eW]
  unfold invC
  rw [eC, eD]
  split <;> omega
end Dk
end Go.Proofs.YtpibeocngkjolaaGreatDoor
