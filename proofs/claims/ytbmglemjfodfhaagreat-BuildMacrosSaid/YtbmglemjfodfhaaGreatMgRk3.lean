/- The document's answer: kinds, patterns, blocks. | The document's answer: blocks: Check, Levels, Residue. | The document's answer: blocks: Levels, Residue. -/
import Derived.Test.YtbmglemjfodfhaaGreatMgBk2
import Derived.Test.YtbmglemjfodfhaaGreatMgCosQ
import Derived.Test.YtbmglemjfodfhaaGreatMgMc2
import Derived.Test.YtbmglemjfodfhaaGreatMgSpreadR
import Derived.Deep.RegionWith
set_option linter.unusedVariables false
set_option linter.unusedSimpArgs false

namespace Go.Proofs.YtbmglemjfodfhaaGreat
open Go.RowKit
namespace Bk
open Kd

theorem results_ct {fn : Func} {p u : Tmp} (hr : fn.results = #[.cell p 67, .tmp u]) (tmps : Array Value) {w : World} {B : Nat} {b1 b2 b3 b4 b5 : Bool} {v : Value}
    (hp : tmps.getD p undef = .pointer (some ⟨B, 0, none⟩)) (hu : tmps.getD u undef = v) (h : At w B #[.bool b1, .bool b2, .bool b3, .bool b4, .bool b5] 67) :
    (results fn tmps).run Tryz.prog w = .ok (.tuple #[.agg #[.bool b1, .bool b2, .bool b3, .bool b4, .bool b5], v]) w := by
  have d0 := h.cell 0 _ rfl
  have d1 := h.cell 1 _ rfl
  have d2 := h.cell 2 _ rfl
  have d3 := h.cell 3 _ rfl
  have d4 := h.cell 4 _ rfl
  have hp' : tmps[p]?.getD undef = .pointer (some ⟨B, 0, none⟩) := by simpa using hp
  have hu' : tmps[u]?.getD undef = v := by simpa using hu
  simp at d0 d1 d2 d3 d4
  simp [results, hr, hp', hu', asAddr, loadVar, go_sem, d0, d1, d2, d3, d4, Tryz.underlying67]
set_option maxRecDepth 100000 in
set_option maxHeartbeats 4000000 in
theorem rOf_any (k : Int) (w : World) : Calls Tryz.prog 62 #[.int .i64 k] w fun e w' => e = .returned (.tuple #[.agg (parts k), .int .i64 (kE k)]) ∧ Below w.heap.size w w' := by
  by_cases hk : 1 ≤ k ∧ k ≤ 10
  · rcases (by omega : k = 1 ∨ k = 2 ∨ k = 3 ∨ k = 4 ∨ k = 5 ∨ k = 6 ∨ k = 7 ∨ k = 8 ∨ k = 9 ∨ k = 10) with rfl | rfl | rfl | rfl | rfl | rfl | rfl | rfl | rfl | rfl <;>
    · go_enter Tryz.func62, Tryz.ntmps62
      go_wp2_with fail
      refine bodyPost_ret (results_ct rfl _ rfl rfl ((At.new w _ _).below ((Below.refl _ _).alloc (Nat.le_refl _) _))) rfl ?_
      exact ⟨rfl, ((Below.refl _ _).alloc (Nat.le_refl _) _).alloc (by simp) _⟩
  · have e1 : kOk k = false := by
      unfold kOk
      by_cases h1 : 1 ≤ k
      · rw [show decide (k ≤ 10) = false from decide_eq_false (by omega)]; simp
      · rw [show decide (1 ≤ k) = false from decide_eq_false h1]; simp
    have e2 := parts_no k e1
    have e3 : kE k = 18 := by unfold kE; rw [e1]; rfl
    rw [e2, e3]
    clear e1 e2 e3
    by_cases h1 : k < 1
    · clear hk
      go_enter Tryz.func62, Tryz.ntmps62
      go_wp2_with fail
      refine bodyPost_ret (results_ct rfl _ rfl rfl (At.new w _ _)) rfl ?_
      exact ⟨rfl, ((Below.refl _ _).alloc (Nat.le_refl _) _)⟩
    · have h2 : 10 < k := by omega
      clear hk
      go_enter Tryz.func62, Tryz.ntmps62
      go_wp2_with fail
      refine bodyPost_ret (results_ct rfl _ rfl rfl (At.new w _ _)) rfl ?_
      exact ⟨rfl, ((Below.refl _ _).alloc (Nat.le_refl _) _)⟩
theorem rcode_any (x : Int) (w : World) : Calls Tryz.prog 145 #[.int .i64 x] w fun e w' => e = .returned (.bool (decide (1 ≤ x) && decide (x ≤ 255) && (x != 128))) ∧ w = w' := by
  by_cases h1 : 1 ≤ x <;> by_cases h2 : x ≤ 255 <;> by_cases h3 : x = 128 <;>
  · go_enter Tryz.func145, Tryz.ntmps145
    go_wp2_with fail
    go_ret
    simp [*]
theorem rfirst_any (i : Bool) (w : World) : Calls Tryz.prog 147 #[.bool i] w fun e w' => e = .returned (.int .i64 (fst i)) ∧ w = w' := by
  cases i <;>
  · go_enter Tryz.func147, Tryz.ntmps147
    go_wp2_with fail
    go_ret
    exact ⟨rfl, rfl⟩
def wiB (t : Bool) (x lo hi : Int) : Bool := if t then decide (lo ≤ x) && decide (x ≤ hi) else x == 0
theorem within_any (t : Bool) (x lo hi : Int) (w : World) : Calls Tryz.prog 103 #[.bool t, .int .i64 x, .int .i64 lo, .int .i64 hi] w fun e w' => e = .returned (.bool (wiB t x lo hi)) ∧ w = w' := by
  unfold wiB
  cases t
  · go_enter Tryz.func103, Tryz.ntmps103
    go_wp2_with fail
    go_ret
    simp
  · by_cases h1 : lo ≤ x <;> by_cases h2 : x ≤ hi <;>
    · go_enter Tryz.func103, Tryz.ntmps103
      go_wp2_with fail
      go_ret
      simp [*]
set_option maxRecDepth 100000 in
set_option maxHeartbeats 4000000 in
theorem rHas_any (p b : Int) (w : World) (hb : 1 ≤ b ∧ b ≤ 6) : Calls Tryz.prog 65 #[.int .i64 p, .int .i64 b] w fun e w' => e = .returned (.bool (hasP p b)) ∧ w = w' := by
  have b1 : decide (1 ≤ b) = true := decide_eq_true hb.1
  have b2 : decide (b ≤ 6) = true := decide_eq_true hb.2
  by_cases h1 : 1 ≤ p
  · by_cases h2 : p ≤ 63
    · have e0 : IntKind.i64.wrap (6 - b) = 6 - b := IntWalk.i64_in _ (by omega)
      have e1 : IntKind.u64.wrap (6 - b) = 6 - b := by rw [IntKind.wrap_u64]; omega
      go_enter Tryz.func65, Tryz.ntmps65
      go_wp2_with fail
      go_ret
      have e3 : (p / 2 ^ (6 - b).toNat).tmod 2 = p / 2 ^ (6 - b).toNat % 2 := Int.tmod_eq_emod_of_nonneg (Int.ediv_nonneg (by omega) (by have h := Int.natCast_nonneg (2 ^ (6 - b).toNat); push_cast at h; exact h))
      refine ⟨?_, rfl⟩
      show Ending.returned (.bool ((p / 2 ^ (6 - b).toNat).tmod 2 == 1)) = _
      rw [e3]
      unfold hasP
      rw [b1, b2, show decide (1 ≤ p) = true from decide_eq_true h1, show decide (p ≤ 63) = true from decide_eq_true h2]
      simp
    · have h3 : hasP p b = false := hasP_no p b (by omega)
      rw [h3]
      go_enter Tryz.func65, Tryz.ntmps65
      go_wp2_with fail
      go_ret
      exact ⟨rfl, rfl⟩
  · have h3 : hasP p b = false := hasP_no p b (by omega)
    rw [h3]
    go_enter Tryz.func65, Tryz.ntmps65
    go_wp2_with fail
    go_ret
    exact ⟨rfl, rfl⟩
set_option maxRecDepth 100000 in
set_option maxHeartbeats 2000000 in
theorem rCount_any (p : Int) (w : World) : Calls Tryz.prog 104 #[.int .i64 p] w fun e w' => e = .returned (.int .i64 (cntP p 6)) ∧ w = w' := by
  go_enter Tryz.func104, Tryz.ntmps104
  go_wp2_with fail
  go_loopw [3, 4] (fun c x wr => ∃ k : Nat, k ≤ 6 ∧ x = .int .i64 ((k : Int) + 1) ∧ c = .int .i64 (cntP p k) ∧ wr = w) (fun _ x _ => 7 - (intOf x).toNat)
  case atStart => exact ⟨0, by omega, rfl, rfl, rfl⟩
  case round =>
    obtain ⟨k, hk, rfl, rfl, rfl⟩ := hrel
    by_cases hk6 : k < 6
    · have kb : (k : Int) + 1 ≤ 6 := by omega
      have ek : IntKind.i64.wrap ((k : Int) + 1 + 1) = (k : Int) + 1 + 1 := IntWalk.i64_in _ (by omega)
      have hc := cntP_bd p k
      have ec : IntKind.i64.wrap (cntP p k + 1) = cntP p k + 1 := IntWalk.i64_in _ (by omega)
      have HH := Lib.hid (fun V => rHas_any p ((k : Int) + 1) V (by omega))
      have SU : cntP p (k + 1) = cntP p k + (if hasP p ((k : Int) + 1) then 1 else 0) := rfl
      obtain ⟨C, hC⟩ : ∃ C, cntP p k = C := ⟨_, rfl⟩
      rw [hC] at ec SU ⊢
      obtain ⟨z, hz⟩ : ∃ z, hasP p ((k : Int) + 1) = z := ⟨_, rfl⟩
      rw [hz] at HH SU
      have HSU := Lib.hid SU
      clear hC hz SU hc
      cases z with
      | true =>
        go_wp2_with (go_at_call 65; refine (HH.out _).mono ?_; rintro e w1 ⟨rfl, rfl⟩)
        go_roundw
        case rel => exact ⟨k + 1, by omega, by go_num, by rw [HSU.out]; rfl, trivial⟩
        case measure => simp [intOf]; omega
      | false =>
        go_wp2_with (go_at_call 65; refine (HH.out _).mono ?_; rintro e w1 ⟨rfl, rfl⟩)
        go_roundw
        case rel => exact ⟨k + 1, by omega, by go_num, by rw [HSU.out]; simp, trivial⟩
        case measure => simp [intOf]; omega
    · have kb : ¬ (k : Int) + 1 ≤ 6 := by omega
      have hk7 : k = 6 := by omega
      subst hk7
      go_wp2_with fail
      go_ret
      exact ⟨rfl, rfl⟩
end Bk
end Go.Proofs.YtbmglemjfodfhaaGreat

namespace Go.Proofs.YtbmglemjfodfhaaGreat
open Go.RowKit
namespace Bk
open Kd Sc

/-- a code that may be. -/
def cdB (x : Int) : Bool := decide (1 ≤ x) && decide (x ≤ 255) && (x != 128)
theorem cdB_dE (dc : Int) (n : Nat) : dE dc n true = if cdB dc then 0 else 10 := by
  unfold dE cdB
  by_cases h1 : dc < 1
  · rw [show decide (1 ≤ dc) = false from decide_eq_false (by omega)]; simp [h1]
  · by_cases h2 : 255 < dc
    · rw [show decide (dc ≤ 255) = false from decide_eq_false (by omega)]; simp [h2]
    · by_cases h3 : dc = 128
      · subst h3; rfl
      · rw [show decide (1 ≤ dc) = true from decide_eq_true (by omega), show decide (dc ≤ 255) = true from decide_eq_true (by omega)]
        simp [h3]; omega
section
set_option maxRecDepth 100000
set_option maxHeartbeats 2000000
variable (dc : Int) (q : Option Addr) (n c : Nat) (r l : Nat → Int) (w : World)
/-- a block whose first code may be: what its pairs tell. -/
theorem rCheck_pairs (i : Bool) (hn : n ≤ 1000) (hp : Pl w (.slice q n c) n r l) (h0 : dE dc n i = 0) :
    Calls Tryz.prog 105 #[bv dc q n c, .bool i] w fun e w' => e = .returned (.int .i64 (sE (fst i) n r l)) ∧ Below w.heap.size w w' := by
  have HB := Lib.hid ((Below.refl w.heap.size w).alloc (Nat.le_refl _) (.cells #[.int .i64 dc, .slice q n c] 74))
  have HA := Lib.hid (At.new w #[.int .i64 dc, .slice q n c] 74)
  have HS : Hid (∀ V, Pl V (.slice q n c) n r l → Calls Tryz.prog 146 #[.slice q n c, .int .i64 (fst i)] V fun e w' => ∃ v, e = .returned (.tuple #[v, .int .i64 (sE (fst i) n r l)]) ∧ Res .i64 V.heap.size w' v (sN (fst i) n r l) (spF (fst i) r l n) ∧ Below V.heap.size V w') := Lib.hid (fun V h => rSpread_any _ (fst i) n r l V h hn)
  have HP := Lib.hid (hp.below (HB.out.drew))
  have k0 := HA.out.cell 0 _ rfl
  have k1 := HA.out.cell 1 _ rfl
  obtain ⟨E, hE⟩ : ∃ E, sE (fst i) n r l = E := ⟨_, rfl⟩
  obtain ⟨SN, hN⟩ : ∃ x, sN (fst i) n r l = x := ⟨_, rfl⟩
  obtain ⟨SF, hF⟩ : ∃ x, spF (fst i) r l n = x := ⟨_, rfl⟩
  rw [hE, hN, hF] at HS
  rw [hE]
  have HB := Lib.hid HB.out.drew
  have HA := Lib.hid (HA.out.below (Below.refl _ _).drew)
  clear hp hE hN hF
  cases i with
  | true =>
    have hcd : (decide (1 ≤ dc) && decide (dc ≤ 255) && (dc != 128)) = true := by
      have := cdB_dE dc n
      rw [h0] at this
      unfold cdB at this
      by_cases h : (decide (1 ≤ dc) && decide (dc ≤ 255) && (dc != 128)) = true
      · exact h
      · rw [if_neg h] at this; cases this
    have HCD := Lib.hid (fun V => rcode_any dc V)
    rw [hcd] at HCD
    clear h0 hcd
    go_enter Tryz.func105, Tryz.ntmps105
    go_upto_region 5 with (go_at_call 145; refine (HCD.out _).mono ?_; rintro e w1 ⟨rfl, rfl⟩)
    clear k0 k1
    have k1 := HA.out.cell 1 _ rfl
    go_region_with (first
      | (go_at_call 147; refine (rfirst_any _ _).mono ?_; rintro e w1 ⟨rfl, rfl⟩)
      | (go_at_call 146; refine (HS.out _ HP.out).mono ?_; rintro e w2 ⟨v, rfl, _, h2⟩; have HB := Lib.hid (chain HB.out h2); clear h2))
    all_goals (go_wp2_with fail; go_ret; exact ⟨rfl, HB.out⟩)
  | false =>
    have hd : dc = 0 ∧ n ≠ 0 := by
      unfold dE at h0
      by_cases h : dc ≠ 0 ∨ n = 0
      · rw [if_neg (by decide), if_pos h] at h0; cases h0
      · omega
    have d1 : (dc != 0) = false := by simp [hd.1]
    have d2 : ((n : Int) == 0) = false := by simp; omega
    clear h0 hd
    go_enter Tryz.func105, Tryz.ntmps105
    go_upto_region 5 with fail
    clear k0 k1
    have k1 := HA.out.cell 1 _ rfl
    go_region_with (first
      | (go_at_call 147; refine (rfirst_any _ _).mono ?_; rintro e w1 ⟨rfl, rfl⟩)
      | (go_at_call 146; refine (HS.out _ HP.out).mono ?_; rintro e w2 ⟨v, rfl, _, h2⟩; have HB := Lib.hid (chain HB.out h2); clear h2))
    all_goals (go_wp2_with fail; go_ret; exact ⟨rfl, HB.out⟩)
theorem rCheck_no (i : Bool) (h0 : dE dc n i ≠ 0) :
    Calls Tryz.prog 105 #[bv dc q n c, .bool i] w fun e w' => e = .returned (.int .i64 (dE dc n i)) ∧ Below w.heap.size w w' := by
  have HB := Lib.hid ((Below.refl w.heap.size w).alloc (Nat.le_refl _) (.cells #[.int .i64 dc, .slice q n c] 74))
  have HA := Lib.hid (At.new w #[.int .i64 dc, .slice q n c] 74)
  have k0 := HA.out.cell 0 _ rfl
  have k1 := HA.out.cell 1 _ rfl
  cases i with
  | true =>
    have e := cdB_dE dc n
    have hcd : (decide (1 ≤ dc) && decide (dc ≤ 255) && (dc != 128)) = false := by
      unfold cdB at e
      cases h : (decide (1 ≤ dc) && decide (dc ≤ 255) && (dc != 128))
      · rfl
      · rw [h, if_pos rfl] at e; exact absurd e h0
    have HCD := Lib.hid (fun V => rcode_any dc V)
    rw [hcd] at HCD
    rw [e, show cdB dc = false from hcd, if_neg (by decide)]
    clear h0 hcd e
    go_enter Tryz.func105, Tryz.ntmps105
    go_wp2_with (go_at_call 145; refine (HCD.out _).mono ?_; rintro e w1 ⟨rfl, rfl⟩)
    go_ret
    exact ⟨rfl, HB.out⟩
  | false =>
    have e : dE dc n false = 2 := by
      unfold dE at h0 ⊢
      rw [if_neg (by decide)] at h0 ⊢
      by_cases h : dc ≠ 0 ∨ n = 0
      · rw [if_pos h]
      · rw [if_neg h] at h0; exact absurd rfl h0
    have hd : dc ≠ 0 ∨ n = 0 := by
      unfold dE at e
      rw [if_neg (by decide)] at e
      by_cases h : dc ≠ 0 ∨ n = 0
      · exact h
      · rw [if_neg h] at e; cases e
    rw [e]
    clear h0 e
    by_cases h1 : dc = 0
    · have d1 : (dc != 0) = false := by simp [h1]
      have h2 : n = 0 := by omega
      have d2 : ((n : Int) == 0) = true := by simp [h2]
      clear hd h1 h2
      go_enter Tryz.func105, Tryz.ntmps105
      go_wp2_with fail
      go_ret
      exact ⟨rfl, HB.out⟩
    · have d1 : (dc != 0) = true := by simp [h1]
      clear hd h1
      go_enter Tryz.func105, Tryz.ntmps105
      go_wp2_with fail
      go_ret
      exact ⟨rfl, HB.out⟩
theorem rCheck_any (i : Bool) (hn : n ≤ 1000) (hp : Pl w (.slice q n c) n r l) :
    Calls Tryz.prog 105 #[bv dc q n c, .bool i] w fun e w' => e = .returned (.int .i64 (bE dc n r l i)) ∧ Below w.heap.size w w' := by
  unfold bE
  by_cases h : dE dc n i = 0
  · rw [if_neg (by simp [h])]
    exact rCheck_pairs dc q n c r l w i hn hp h
  · rw [if_pos h]
    exact rCheck_no dc q n c w i h
end
end Bk
end Go.Proofs.YtbmglemjfodfhaaGreat

namespace Go.Proofs.YtbmglemjfodfhaaGreat
open Go.RowKit
namespace Bk
open Kd Sc Qu

section
set_option maxRecDepth 100000
set_option maxHeartbeats 2000000
variable (dc : Int) (q : Option Addr) (n c : Nat) (r l : Nat → Int) (i : Bool)
theorem rLevels_any (hn : n ≤ 1000) (w : World) (hp : Pl w (.slice q n c) n r l) :
    Calls Tryz.prog 110 #[bv dc q n c, .bool i] w fun e w' => ∃ v, e = .returned (.tuple #[v, .int .i64 (bE dc n r l i)]) ∧ Res .i64 w.heap.size w' v (lN dc n r l i) (spF (fst i) r l n) ∧ Below w.heap.size w w' := by
  have HC := Lib.hid (fun V (h : Pl V (.slice q n c) n r l) => rCheck_any dc q n c r l V i hn h)
  have HE := Lib.hid (@bE_sE dc n r l i)
  have HN : lN dc n r l i = if bE dc n r l i = 0 then 64 else 0 := rfl
  obtain ⟨E, hE⟩ : ∃ E, bE dc n r l i = E := ⟨_, rfl⟩
  rw [hE] at HC HE HN
  rw [hE, HN]
  clear hE HN
  have HS : Hid (∀ V, Pl V (.slice q n c) n r l → Calls Tryz.prog 146 #[.slice q n c, .int .i64 (fst i)] V fun e w' => ∃ v, e = .returned (.tuple #[v, .int .i64 (sE (fst i) n r l)]) ∧ Res .i64 V.heap.size w' v (sN (fst i) n r l) (spF (fst i) r l n) ∧ Below V.heap.size V w') := Lib.hid (fun V h => rSpread_any _ (fst i) n r l V h hn)
  have HB := Lib.hid ((Below.refl w.heap.size w).alloc (Nat.le_refl _) (.cells #[.int .i64 dc, .slice q n c] 74))
  have HA := Lib.hid (At.new w #[.int .i64 dc, .slice q n c] 74)
  have HP := Lib.hid (hp.below HB.out)
  have k0 := HA.out.cell 0 _ rfl
  have k1 := HA.out.cell 1 _ rfl
  have z0 : sN (fst i) n r l = if sE (fst i) n r l = 0 then 64 else 0 := rfl
  obtain ⟨SE, hSE⟩ : ∃ x, sE (fst i) n r l = x := ⟨_, rfl⟩
  obtain ⟨SN, hSN⟩ : ∃ x, sN (fst i) n r l = x := ⟨_, rfl⟩
  obtain ⟨SF, hSF⟩ : ∃ x, spF (fst i) r l n = x := ⟨_, rfl⟩
  rw [hSE] at HE
  rw [hSE, hSN] at z0
  rw [hSE, hSN, hSF] at HS
  rw [hSF]
  clear hSE hSN hSF hp
  by_cases h0 : E = 0
  · have e0 : SE = 0 := HE.out h0
    rw [e0] at HS z0
    rw [z0] at HS
    simp only [if_pos] at HS
    subst h0
    have e1 : ((0 : Int) != 0) = false := by decide
    clear e0 z0
    go_enter Tryz.func110, Tryz.ntmps110
    go_upto_region 4 with (go_at_call 105; refine (HC.out _ HP.out).mono ?_; rintro e w1 ⟨rfl, h1⟩; have HB := Lib.hid (chain HB.out h1); have HA := Lib.hid (HA.out.below h1); have HP := Lib.hid (HP.out.below h1); clear h1 k0 k1)
    have hz := HB.out.size
    have HB := Lib.hid HB.out.drew
    have HA := Lib.hid (HA.out.below (Below.refl _ _).drew)
    have HP := Lib.hid (HP.out.below (Below.refl _ _).drew)
    have k1 := HA.out.cell 1 _ rfl
    go_region_with (first
      | (go_at_call 147; refine (rfirst_any _ _).mono ?_; rintro e w2 ⟨rfl, rfl⟩)
      | (go_at_call 146; refine (HS.out _ HP.out).mono ?_; rintro e w2 ⟨v, rfl, hR, h2⟩; have HR := Lib.hid (Res.base hR hz); have HB := Lib.hid (chain HB.out h2); clear h2 hR))
    all_goals (go_wp2_with fail; go_ret2; exact ⟨_, rfl, HR.out, HB.out⟩)
  · have e1 : (E != 0) = true := by simpa using h0
    rw [if_neg h0]
    clear h0 z0
    go_enter Tryz.func110, Tryz.ntmps110
    go_wp2_with (go_at_call 105; refine (HC.out _ HP.out).mono ?_; rintro e w1 ⟨rfl, h1⟩; have HB := Lib.hid (chain HB.out h1); clear h1 k0 k1)
    go_ret2
    exact ⟨_, rfl, .inl ⟨rfl, rfl⟩, HB.out⟩
theorem okAll_no (f : Nat → Int) (q : Int) (h : q < 1 ∨ 31 < q) : okAll f q 64 = false := okAll_not (i := 0) (by omega) (by unfold okB; exact decide_eq_false (by omega))
theorem rResidue_any (by' : Int) (hn : n ≤ 1000) (w : World) (hp : Pl w (.slice q n c) n r l) :
    Calls Tryz.prog 67 #[bv dc q n c, .int .i64 by', .bool i] w fun e w' => ∃ v, e = .returned (.tuple #[v, .int .i64 (rsE dc n r l i by')]) ∧ Res .i64 w.heap.size w' v (rsN dc n r l i by') (Co.invC (wF dc n r l i by')) ∧ Below w.heap.size w w' := by
  have HL := Lib.hid (fun V (h : Pl V (.slice q n c) n r l) => rLevels_any dc q n c r l i hn V h)
  have HB := Lib.hid ((Below.refl w.heap.size w).alloc (Nat.le_refl _) (.cells #[.int .i64 dc, .slice q n c] 74))
  have HA := Lib.hid (At.new w #[.int .i64 dc, .slice q n c] 74)
  have HP := Lib.hid (hp.below HB.out)
  have k0 := HA.out.cell 0 _ rfl
  have k1 := HA.out.cell 1 _ rfl
  clear hp
  by_cases h0 : bE dc n r l i = 0
  · rw [h0, show lN dc n r l i = 64 from if_pos h0] at HL
    obtain ⟨F, hF⟩ : ∃ F, spF (fst i) r l n = F := ⟨_, rfl⟩
    have bF : ∀ p, -127 ≤ F p ∧ F p ≤ 127 := fun p => by rw [← hF]; exact sp_levels i n r l (bE_sE h0) p
    have HIr := Lib.hid (fun V v (hs : Sl .i64 V v 64 F) => rInter_any v 64 F by' V hs)
    have HIa := Lib.hid (fun V v (hs : Sl .i64 V v 64 F) => rIntra_any v 64 F by' dc V hs)
    unfold Inters at HIr
    unfold Intras at HIa
    by_cases hq : by' < 1 ∨ 31 < by'
    · have e3 : rsE dc n r l i by' = 3 := by unfold rsE; rw [if_neg (by simp [h0]), if_pos hq]
      rw [e3, show rsN dc n r l i by' = 0 by unfold rsN; rw [e3]; rfl]
      have n1 : iE 64 F by' = 3 := by unfold iE; rw [if_pos rfl, okAll_no F by' hq]; rfl
      have n2 : iN 64 F by' = 0 := by unfold iN; rw [if_pos rfl, okAll_no F by' hq]; rfl
      have n3 : aE 64 F by' dc = 3 := by unfold aE; rw [n1]; rfl
      rw [n1, n2] at HIr
      rw [n3] at HIa
      obtain ⟨R, hR⟩ : ∃ R, Co.invC (wF dc n r l i by') = R := ⟨_, rfl⟩
      rw [hR]
      rw [hF] at HL
      clear hR hF bF h0 e3 n1 n2 n3 hq
      cases i with
      | false =>
        go_enter Tryz.func67, Tryz.ntmps67
        go_wp2_with (first
          | (go_at_call 110; refine (HL.out _ HP.out).mono ?_; rintro e w1 ⟨v1, rfl, hR, h1⟩; have HB := Lib.hid (chain HB.out h1); have HR1 := Lib.hid hR; clear h1 hR k0 k1)
          | (go_at_call 111; refine (HIr.out _ _ HR1.out.sl).mono ?_; rintro e w2 ⟨v2, rfl, _, h1⟩; have HB := Lib.hid (chain HB.out h1); clear h1))
        go_ret2
        exact ⟨_, rfl, .inl ⟨rfl, rfl⟩, HB.out⟩
      | true =>
        go_enter Tryz.func67, Tryz.ntmps67
        go_wp2_with (first
          | (go_at_call 110; refine (HL.out _ HP.out).mono ?_; rintro e w1 ⟨v1, rfl, hR, h1⟩; have HB := Lib.hid (chain HB.out h1); have HR1 := Lib.hid hR; have HA := Lib.hid (HA.out.below h1); clear h1 hR k0 k1)
          | (go_at_call 111; refine (HIr.out _ _ HR1.out.sl).mono ?_; rintro e w2 ⟨v2, rfl, _, h1⟩; have HB := Lib.hid (chain HB.out h1); have HR1 := Lib.hid (HR1.out.sl.below h1); have HA := Lib.hid (HA.out.below h1); have k0 := HA.out.cell 0 _ rfl; clear h1)
          | (go_at_call 112; refine (HIa.out _ _ HR1.out).mono ?_; rintro e w2 ⟨v2, rfl, _, h1⟩; have HB := Lib.hid (chain HB.out h1); clear h1 k0))
        go_ret2
        exact ⟨_, rfl, .inl ⟨rfl, rfl⟩, HB.out⟩
    · have e3 : rsE dc n r l i by' = 0 := by unfold rsE; rw [if_neg (by simp [h0]), if_neg hq]
      rw [e3, show rsN dc n r l i by' = 64 by unfold rsN; rw [e3]; rfl]
      have okA := ok_all F by' (by omega) (by omega) bF
      have okI := ok_v _ (wF_bd dc n r l i by' (by omega))
      have n1 : iE 64 F by' = 0 := by unfold iE; rw [if_pos rfl, okA]; rfl
      have n2 : iN 64 F by' = 64 := by unfold iN; rw [if_pos rfl, okA]; rfl
      have HI : Hid (∀ V v, Sl .i64 V v 64 (wF dc n r l i by') → Calls Tryz.prog 113 #[v] V fun e w' => ∃ v', e = .returned (.tuple #[v', .int .i64 0]) ∧ Res .i64 V.heap.size w' v' 64 (Co.invC (wF dc n r l i by')) ∧ Below V.heap.size V w') := Lib.hid (fun V v hs => by
        have := Co.rInverse_any v 64 _ V hs
        unfold Co.Inverts at this
        rw [show Co.vE 64 (wF dc n r l i by') = 0 by unfold Co.vE; rw [if_pos rfl, okI]; rfl, show Co.vN 64 (wF dc n r l i by') = 64 by unfold Co.vN; rw [if_pos rfl, okI]; rfl] at this
        exact this)
      rw [n1, n2] at HIr
      have HE := bE_dE h0
      cases i with
      | false =>
        rw [show (fun j => val (F j) by') = wF dc n r l false by' by unfold wF; rw [← hF]; rfl] at HIr
        obtain ⟨G, hG⟩ : ∃ G, wF dc n r l false by' = G := ⟨_, rfl⟩
        rw [hG] at HI HIr
        rw [hG]
        obtain ⟨R, hR⟩ : ∃ R, Co.invC G = R := ⟨_, rfl⟩
        rw [hR] at HI
        rw [hR]
        rw [hF] at HL
        clear hR hF bF h0 hG okA okI e3 n1 n2 hq HE HIa
        go_enter Tryz.func67, Tryz.ntmps67
        go_wp2_with (first
          | (go_at_call 110; refine (HL.out _ HP.out).mono ?_; rintro e w1 ⟨v1, rfl, hR, h1⟩; have HB := Lib.hid (chain HB.out h1); have HR1 := Lib.hid hR; clear h1 hR k0 k1)
          | (go_at_call 111; refine (HIr.out _ _ HR1.out.sl).mono ?_; rintro e w2 ⟨v2, rfl, hR, h1⟩; have HB := Lib.hid (chain HB.out h1); have HR2 := Lib.hid hR; clear h1 hR)
          | (go_at_call 113; refine (HI.out _ _ HR2.out.sl).mono ?_; rintro e w3 ⟨v3, rfl, hR, h1⟩; have sz := HB.out.size; have HB := Lib.hid (chain HB.out h1); have HR3 := Lib.hid hR; clear h1 hR))
        go_ret2
        exact ⟨_, rfl, Res.base HR3.out sz, HB.out⟩
      | true =>
        have e0 := dE_dcE HE
        rw [show aE 64 F by' dc = 0 by unfold aE; rw [if_pos n1, e0], show aN 64 F by' dc = 64 by unfold aN; rw [if_pos ⟨n1, e0⟩], show aV F by' dc = wF dc n r l true by' by unfold wF; rw [← hF]; rfl] at HIa
        obtain ⟨G, hG⟩ : ∃ G, wF dc n r l true by' = G := ⟨_, rfl⟩
        rw [hG] at HI HIa
        rw [hG]
        obtain ⟨R, hR⟩ : ∃ R, Co.invC G = R := ⟨_, rfl⟩
        rw [hR] at HI
        rw [hR]
        rw [hF] at HL
        clear hR hF bF h0 hG okA okI e0 e3 n1 n2 hq HE
        go_enter Tryz.func67, Tryz.ntmps67
        go_wp2_with (first
          | (go_at_call 110; refine (HL.out _ HP.out).mono ?_; rintro e w1 ⟨v1, rfl, hR, h1⟩; have HB := Lib.hid (chain HB.out h1); have HR1 := Lib.hid hR; have HA := Lib.hid (HA.out.below h1); clear h1 hR k0 k1)
          | (go_at_call 111; refine (HIr.out _ _ HR1.out.sl).mono ?_; rintro e w2 ⟨v2, rfl, _, h1⟩; have HB := Lib.hid (chain HB.out h1); have HR1 := Lib.hid (HR1.out.sl.below h1); have HA := Lib.hid (HA.out.below h1); have k0 := HA.out.cell 0 _ rfl; clear h1)
          | (go_at_call 112; refine (HIa.out _ _ HR1.out).mono ?_; rintro e w2 ⟨v2, rfl, hR, h1⟩; have HB := Lib.hid (chain HB.out h1); have HR2 := Lib.hid hR; clear h1 hR k0)
          | (go_at_call 113; refine (HI.out _ _ HR2.out.sl).mono ?_; rintro e w3 ⟨v3, rfl, hR, h1⟩; have sz := HB.out.size; have HB := Lib.hid (chain HB.out h1); have HR3 := Lib.hid hR; clear h1 hR))
        go_ret2
        exact ⟨_, rfl, Res.base HR3.out sz, HB.out⟩
  · obtain ⟨E, hE⟩ : ∃ E, bE dc n r l i = E := ⟨_, rfl⟩
    have e3 : rsE dc n r l i by' = E := by unfold rsE; rw [if_pos h0, hE]
    rw [e3, show rsN dc n r l i by' = 0 by unfold rsN; rw [e3, ← hE, if_neg h0]]
    clear e3
    rw [show lN dc n r l i = 0 from if_neg h0, hE] at HL
    rw [hE] at h0
    have t1 : (E != 0) = true := by simp [h0]
    obtain ⟨R, hR⟩ : ∃ R, Co.invC (wF dc n r l i by') = R := ⟨_, rfl⟩
    obtain ⟨F, hF⟩ : ∃ F, spF (fst i) r l n = F := ⟨_, rfl⟩
    rw [hR]
    rw [hF] at HL
    clear hR hF h0 hE
    go_enter Tryz.func67, Tryz.ntmps67
    go_wp2_with (go_at_call 110; refine (HL.out _ HP.out).mono ?_; rintro e w1 ⟨v1, rfl, hR, h1⟩; have HB := Lib.hid (chain HB.out h1); clear h1 hR k0 k1)
    go_ret2
    exact ⟨_, rfl, .inl ⟨rfl, rfl⟩, HB.out⟩
end
end Bk
end Go.Proofs.YtbmglemjfodfhaaGreat
