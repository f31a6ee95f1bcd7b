/- block.Check, block.Levels. -/
import Derived.Test.YtpibeocngkjolaaGreatDoorMgCosV
import Derived.Test.YtpibeocngkjolaaGreatDoorMgQuantBl
import Derived.Test.YtpibeocngkjolaaGreatDoorMgSpread
import Derived.BigQuiet
import Derived.Deep.RegionWith
set_option linter.unusedVariables false
set_option linter.unusedSimpArgs false

namespace Go.Proofs.YtpibeocngkjolaaGreatDoor
open Go.RowKit
namespace Bk
open Sc

def fst (i : Bool) : Int := if i then 1 else 0
/-- is a block's code as it may be? -/
def dE (dc : Int) (n : Nat) (i : Bool) : Int := if i then (if dc < 1 ∨ 255 < dc ∨ dc = 128 then 10 else 0) else (if dc ≠ 0 ∨ n = 0 then 2 else 0)
def bE (dc : Int) (n : Nat) (r l : Nat → Int) (i : Bool) : Int := if dE dc n i ≠ 0 then dE dc n i else sE (fst i) n r l
/-- an object of the call's own. -/
def At (V : World) (B : Nat) (vs : Array Value) (t : TypeId) : Prop := V.heap[B]? = some (.cells vs t (0, 0))
theorem At.new (w : World) (vs : Array Value) (t : TypeId) : At (w.alloc (.cells vs t)) w.heap.size vs t := heap_alloc_new w _
theorem At.lt {V : World} {B : Nat} {vs : Array Value} {t : TypeId} (h : At V B vs t) : B < V.heap.size := (Array.getElem?_eq_some_iff.1 h).1
theorem At.cell {V : World} {B : Nat} {vs : Array Value} {t : TypeId} (h : At V B vs t) (i : Nat) (v : Value) (hv : vs[i]? = some v) : V.cell? ⟨B, i, none⟩ = some v := by
  have h' : V.heap[B]? = some (.cells vs t (0, 0)) := h
  simp [World.cell?, h', hv]
theorem At.kept {V V' : World} {B : Nat} {vs : Array Value} {t : TypeId} {row : Option Nat} (h : At V B vs t) (hg : V.grownBy V' row) (hne : some B ≠ row) : At V' B vs t := (hg.block B h.lt hne).trans h
theorem At.below {V V' : World} {B : Nat} {vs : Array Value} {t : TypeId} (h : At V B vs t) (hb : Below V.heap.size V V') : At V' B vs t := h.kept (grown_of_below hb none) (by simp)
/-- a block's value. -/
abbrev bv (dc : Int) (q : Option Addr) (n c : Nat) : Value := .agg #[.int .i64 dc, .slice q n c]
theorem dc_any (dc : Int) (q : Option Addr) (n c : Nat) (i : Bool) (hn : n ≤ 1000) (w : World) :
    Calls Tryz.prog 52 #[.agg #[.int .i64 dc, .slice q n c, .bool i]] w fun e w' => e = .returned (.int .i64 (dE dc n i)) ∧ Below w.heap.size w w' := by
  have hb := (Below.refl w.heap.size w).alloc (Nat.le_refl _) (.cells #[.int .i64 dc, .slice q n c, .bool i] 62)
  cases i
  · by_cases h1 : dc = 0
    · by_cases h2 : n = 0
      · rw [show dE dc n false = 2 by unfold dE; simp [h2]]
        subst h2
        have d1 : (dc != 0) = false := by simp [h1]
        go_enter Tryz.func52, Tryz.ntmps52
        go_wp2
        go_ret
        exact ⟨rfl, (Below.refl _ _).alloc (Nat.le_refl _) _⟩
      · rw [show dE dc n false = 0 by unfold dE; simp [h1, h2]]
        have d1 : (dc != 0) = false := by simp [h1]
        have d2 : ((n : Int) == 0) = false := by simp; omega
        go_enter Tryz.func52, Tryz.ntmps52
        go_wp2
        go_ret
        exact ⟨rfl, (Below.refl _ _).alloc (Nat.le_refl _) _⟩
    · rw [show dE dc n false = 2 by unfold dE; simp [h1]]
      have d1 : (dc != 0) = true := by simp [h1]
      go_enter Tryz.func52, Tryz.ntmps52
      go_wp2
      go_ret
      exact ⟨rfl, (Below.refl _ _).alloc (Nat.le_refl _) _⟩
  · by_cases h1 : dc < 1
    · rw [show dE dc n true = 10 by unfold dE; simp [h1]]
      go_enter Tryz.func52, Tryz.ntmps52
      go_wp2
      go_ret
      exact ⟨rfl, (Below.refl _ _).alloc (Nat.le_refl _) _⟩
    · by_cases h2 : 255 < dc
      · rw [show dE dc n true = 10 by unfold dE; simp [h2]]
        go_enter Tryz.func52, Tryz.ntmps52
        go_wp2
        go_ret
        exact ⟨rfl, (Below.refl _ _).alloc (Nat.le_refl _) _⟩
      · by_cases h3 : dc = 128
        · rw [show dE dc n true = 10 by unfold dE; simp [h3]]
          have d3 : (dc == 128) = true := by simp [h3]
          go_enter Tryz.func52, Tryz.ntmps52
          go_wp2
          go_ret
          exact ⟨rfl, (Below.refl _ _).alloc (Nat.le_refl _) _⟩
        · rw [show dE dc n true = 0 by unfold dE; simp [h3]; omega]
          have d3 : (dc == 128) = false := by simp [h3]
          go_enter Tryz.func52, Tryz.ntmps52
          go_wp2
          go_ret
          exact ⟨rfl, (Below.refl _ _).alloc (Nat.le_refl _) _⟩
theorem first_any (dc : Int) (q : Option Addr) (n c : Nat) (i : Bool) (w : World) :
    Calls Tryz.prog 50 #[.agg #[.int .i64 dc, .slice q n c, .bool i]] w fun e w' => e = .returned (.int .i64 (fst i)) ∧ Below w.heap.size w w' := by
  have hb := (Below.refl w.heap.size w).alloc (Nat.le_refl _) (.cells #[.int .i64 dc, .slice q n c, .bool i] 62)
  cases i <;> (go_enter Tryz.func50, Tryz.ntmps50; go_wp2; go_ret; exact ⟨rfl, hb⟩)
theorem pairs_any (dc : Int) (q : Option Addr) (n c : Nat) (r l : Nat → Int) (i : Bool) (hn : n ≤ 1000) (w : World) (hp : Pl w (.slice q n c) n r l) :
    Calls Tryz.prog 53 #[.agg #[.int .i64 dc, .slice q n c, .bool i]] w fun e w' => e = .returned (.int .i64 (sE (fst i) n r l)) ∧ Below w.heap.size w w' := by
  have HB := Lib.hid ((Below.refl w.heap.size w).alloc (Nat.le_refl _) (.cells #[.int .i64 dc, .slice q n c, .bool i] 62)).drew
  have HA := Lib.hid ((At.new w #[.int .i64 dc, .slice q n c, .bool i] 62).below (Below.refl _ _).drew)
  have HP := Lib.hid (hp.below HB.out)
  obtain ⟨E, hE⟩ : ∃ E, sE (fst i) n r l = E := ⟨_, rfl⟩
  have HE := Lib.hid hE
  rw [hE]
  clear hp hE
  go_enter Tryz.func53, Tryz.ntmps53
  go_wp2_with fail
  have k1 := HA.out.cell 1 _ rfl
  go_region_with (first
    | (go_at_call 50; refine (first_any _ _ _ _ _ _).mono ?_; rintro e w1 ⟨rfl, h1⟩; have HB := Lib.hid (chain HB.out h1); have HP := Lib.hid (HP.out.below h1); have HA := Lib.hid (HA.out.below h1); have k1 := HA.out.cell 1 _ rfl; clear h1)
    | (go_at_call 49; refine (Spread_any _ _ n r l _ HP.out hn).mono ?_; rintro e w2 ⟨v, rfl, _, h2⟩; rw [HE.out]; have HB := Lib.hid (chain HB.out h2); clear h2))
  all_goals (go_wp2_with fail; go_ret; exact ⟨rfl, HB.out⟩)
/-- an array's element of one cell. -/
theorem run_index_one {P : Program} (w : World) {vs : Array Value} {m : Nat} {ty e : TypeId} (hu : P.underlying ty = some (.array m e)) (hagg : (isAgg e).run P w = .ok false w) (hi : (P.info? e).map (·.size) = some 1) (kk : IntKind) (j : Nat) (hj : j < m) (v : Value) (hv : vs[j]? = some v) :
    (Instr.index ty (.agg vs) (.int kk (j : Int))).run P w = .ok v w := by
  obtain ⟨i, hi, hs⟩ := info_size hi
  have hz : (sizeOf e).run P w = .ok 1 w := by simp [sizeOf, typeInfo, hi, hs]
  have hp : (part e vs j).run P w = .ok v w := by
    unfold part
    rw [Sem.run_bind, hagg]
    simp [hv]
  simp only [Instr.index, asIntOf, Sem.run_bind, Sem.run_pure, Result.andThen_ok, run_underlying hu w]
  rw [if_pos (by omega)]
  simp only [Sem.run_bind, hz, Result.andThen_ok, Int.toNat_natCast, Nat.mul_one, hp]
theorem not_agg (w : World) : (isAgg 88).run Tryz.prog w = .ok false w := by
  unfold isAgg
  rw [Sem.run_bind, run_underlying Tryz.underlying88 w]
  rfl
set_option maxRecDepth 100000 in
theorem Check_any (dc : Int) (q : Option Addr) (n c : Nat) (r l : Nat → Int) (i : Bool) (hn : n ≤ 1000) (w : World) (hp : Pl w (.slice q n c) n r l) :
    Calls Tryz.prog 23 #[bv dc q n c, .bool i] w fun e w' => e = .returned (.int .i64 (bE dc n r l i)) ∧ Below w.heap.size w w' := by
  have HD := Lib.hid (fun V => dc_any dc q n c i hn V)
  have HS := Lib.hid (fun V (h : Pl V (.slice q n c) n r l) => pairs_any dc q n c r l i hn V h)
  obtain ⟨D, hD⟩ : ∃ D, dE dc n i = D := ⟨_, rfl⟩
  obtain ⟨S, hS⟩ : ∃ S, sE (fst i) n r l = S := ⟨_, rfl⟩
  rw [hD] at HD
  rw [hS] at HS
  obtain ⟨E, hE⟩ : ∃ E, bE dc n r l i = E := ⟨_, rfl⟩
  have HE : Hid (E = if D ≠ 0 then D else S) := Lib.hid (by rw [← hE]; unfold bE; rw [hD, hS])
  rw [hE]
  clear hE hD hS
  have HB := Lib.hid (((Below.refl w.heap.size w).alloc (Nat.le_refl _) (.cells #[.int .i64 dc, .slice q n c] 27)).alloc (by simp) (.cells #[.int .i64 dc, .slice q n c, .bool i] 62))
  have HP := Lib.hid (hp.below HB.out)
  clear hp
  go_enter Tryz.func23, Tryz.ntmps23
  go_wp2_with fail
  go_loopw [17] (fun x wr => ∃ k : Nat, k ≤ 2 ∧ x = .int .i64 k ∧ Hid (1 ≤ k → D = 0) ∧ Hid (2 ≤ k → S = 0) ∧ Hid (Below w.heap.size w wr) ∧ Hid (Pl wr (.slice q n c) n r l)) (fun x _ => 2 - (intOf x).toNat)
  case atStart => exact ⟨0, by omega, rfl, Lib.hid (fun h => by omega), Lib.hid (fun h => by omega), HB, HP⟩
  case round =>
    obtain ⟨k, hk, rfl, H1, H2, HB, HP⟩ := hrel
    rcases (by omega : k = 0 ∨ k = 1 ∨ k = 2) with rfl | rfl | rfl
    · have ix : ∀ w', (Instr.index 89 (.agg #[.func (.func 52) #[.agg #[.int .i64 dc, .slice q n c, .bool i]] #[], .func (.func 53) #[.agg #[.int .i64 dc, .slice q n c, .bool i]] #[]]) (.int .i64 0)).run Tryz.prog w' = .ok (.func (.func 52) #[.agg #[.int .i64 dc, .slice q n c, .bool i]] #[]) w' := (fun w' => run_index_one w' (vs := #[.func (.func 52) #[.agg #[.int .i64 dc, .slice q n c, .bool i]] #[], .func (.func 53) #[.agg #[.int .i64 dc, .slice q n c, .bool i]] #[]]) Tryz.underlying89 (not_agg w') (by kernel_rfl) .i64 0 (by decide) _ rfl)
      by_cases hD : D = 0
      · have t1 : (D != 0) = false := by simp [hD]
        go_wp2_with (go_at_call 52; refine (HD.out _).mono ?_; rintro e w1 ⟨rfl, h1⟩; have HB := Lib.hid (chain HB.out h1); have HP := Lib.hid (HP.out.below h1); clear h1)
        go_roundw
        case rel => exact ⟨1, by omega, rfl, Lib.hid (fun _ => hD), Lib.hid (fun h => by omega), HB, HP⟩
        case measure => simp [intOf]
      · have t1 : (D != 0) = true := by simp [hD]
        go_wp2_with (go_at_call 52; refine (HD.out _).mono ?_; rintro e w1 ⟨rfl, h1⟩; have HB := Lib.hid (chain HB.out h1); clear h1)
        go_ret
        exact ⟨by rw [HE.out, if_pos hD]; rfl, HB.out⟩
    · have hD0 := H1.out (by omega)
      have ix : ∀ w', (Instr.index 89 (.agg #[.func (.func 52) #[.agg #[.int .i64 dc, .slice q n c, .bool i]] #[], .func (.func 53) #[.agg #[.int .i64 dc, .slice q n c, .bool i]] #[]]) (.int .i64 1)).run Tryz.prog w' = .ok (.func (.func 53) #[.agg #[.int .i64 dc, .slice q n c, .bool i]] #[]) w' := (fun w' => run_index_one w' (vs := #[.func (.func 52) #[.agg #[.int .i64 dc, .slice q n c, .bool i]] #[], .func (.func 53) #[.agg #[.int .i64 dc, .slice q n c, .bool i]] #[]]) Tryz.underlying89 (not_agg w') (by kernel_rfl) .i64 1 (by decide) _ rfl)
      by_cases hS : S = 0
      · have t1 : (S != 0) = false := by simp [hS]
        go_wp2_with (go_at_call 53; refine (HS.out _ HP.out).mono ?_; rintro e w1 ⟨rfl, h1⟩; have HB := Lib.hid (chain HB.out h1); have HP := Lib.hid (HP.out.below h1); clear h1)
        go_roundw
        case rel => exact ⟨2, by omega, rfl, Lib.hid (fun _ => hD0), Lib.hid (fun _ => hS), HB, HP⟩
        case measure => simp [intOf]
      · have t1 : (S != 0) = true := by simp [hS]
        go_wp2_with (go_at_call 53; refine (HS.out _ HP.out).mono ?_; rintro e w1 ⟨rfl, h1⟩; have HB := Lib.hid (chain HB.out h1); clear h1)
        go_ret
        exact ⟨by rw [HE.out, if_neg (by simp [hD0])]; rfl, HB.out⟩
    · have hD0 := H1.out (by omega)
      have hS0 := H2.out (by omega)
      go_wp2
      go_ret
      exact ⟨by rw [HE.out, if_neg (by simp [hD0]), hS0]; rfl, HB.out⟩
theorem Res.base {k : IntKind} {B B' : Nat} {w : World} {v : Value} {n : Nat} {f : Nat → Int} (h : Res k B w v n f) (hb : B' ≤ B) : Res k B' w v n f := by
  rcases h with h | ⟨g, c, e, h1, h2⟩
  · exact .inl h
  · exact .inr ⟨g, c, e, Nat.le_trans hb h1, h2⟩
/-- what Levels comes to. -/
def lN (dc : Int) (n : Nat) (r l : Nat → Int) (i : Bool) : Nat := if bE dc n r l i = 0 then 64 else 0
theorem bE_sE {dc : Int} {n : Nat} {r l : Nat → Int} {i : Bool} (h : bE dc n r l i = 0) : sE (fst i) n r l = 0 := by
  unfold bE at h
  by_cases hd : dE dc n i ≠ 0
  · rw [if_pos hd] at h; exact absurd h hd
  · rwa [if_neg hd] at h
set_option maxRecDepth 100000 in
set_option maxHeartbeats 2000000 in
theorem Levels_any (dc : Int) (q : Option Addr) (n c : Nat) (r l : Nat → Int) (i : Bool) (hn : n ≤ 1000) (w : World) (hp : Pl w (.slice q n c) n r l) :
    Calls Tryz.prog 20 #[bv dc q n c, .bool i] w fun e w' => ∃ v, e = .returned (.tuple #[v, .int .i64 (bE dc n r l i)]) ∧ Res .i64 w.heap.size w' v (lN dc n r l i) (spF (fst i) r l n) ∧ Below w.heap.size w w' := by
  have HC := Lib.hid (fun V (h : Pl V (.slice q n c) n r l) => Check_any dc q n c r l i hn V h)
  have HE := Lib.hid (@bE_sE dc n r l i)
  have HN : lN dc n r l i = if bE dc n r l i = 0 then 64 else 0 := rfl
  obtain ⟨E, hE⟩ : ∃ E, bE dc n r l i = E := ⟨_, rfl⟩
  rw [hE] at HC HE HN
  rw [hE, HN]
  clear hE HN
  have HSp := Lib.hid (fun V (h : Pl V (.slice q n c) n r l) => Spread_any _ (fst i) n r l V h hn)
  unfold Spreads at HSp
  obtain ⟨F, hF⟩ : ∃ F, spF (fst i) r l n = F := ⟨_, rfl⟩
  rw [hF] at HSp
  rw [hF]
  clear hF
  have HB := Lib.hid ((Below.refl w.heap.size w).alloc (Nat.le_refl _) (.cells #[.int .i64 dc, .slice q n c] 27))
  have HA := Lib.hid (At.new w #[.int .i64 dc, .slice q n c] 27)
  have HP := Lib.hid (hp.below HB.out)
  clear hp
  by_cases h0 : E = 0
  · rw [if_pos h0]
    have t1 : (E != 0) = false := by simp [h0]
    go_enter Tryz.func20, Tryz.ntmps20
    go_upto_region 2 with (go_at_call 23; refine (HC.out _ HP.out).mono ?_; rintro e w1 ⟨rfl, h1⟩; have HB := Lib.hid (chain HB.out h1); have HP := Lib.hid (HP.out.below h1); have HA := Lib.hid (HA.out.below h1); clear h1)
    have k0 := HA.out.cell 0 _ rfl
    have k1 := HA.out.cell 1 _ rfl
    have HZ := Lib.hid (HE.out h0)
    have h00 := Lib.hid h0
    clear h0
    go_wp2_with fail
    have HB := Lib.hid HB.out.drew
    have HP := Lib.hid (HP.out.below (Below.refl _ _).drew)
    have HA := Lib.hid (HA.out.below (Below.refl _ _).drew)
    have k0 := HA.out.cell 0 _ rfl
    have k1 := HA.out.cell 1 _ rfl
    have sz := HB.out.size
    go_region_with (first
      | (go_at_call 50; refine (first_any _ _ _ _ _ _).mono ?_; rintro e w2 ⟨rfl, h1⟩; have HB := Lib.hid (chain HB.out h1); have HP := Lib.hid (HP.out.below h1); have HA := Lib.hid (HA.out.below h1); have k0 := HA.out.cell 0 _ rfl; have k1 := HA.out.cell 1 _ rfl; have sz := HB.out.size; clear h1)
      | (go_at_call 49; refine (HSp.out _ HP.out).mono ?_; rintro e w3 ⟨v, rfl, hR, h2⟩; rw [HZ.out]; have HB := Lib.hid (chain HB.out h2); have HR := Lib.hid hR; clear h2 hR))
    all_goals (go_wp2_with fail; go_ret2; have hR := HR.out; unfold sN at hR; rw [if_pos HZ.out] at hR; exact ⟨_, by rw [h00.out]; rfl, Res.base hR (by omega), HB.out⟩)
  · have t1 : (E != 0) = true := by simp [h0]
    rw [if_neg h0]
    go_enter Tryz.func20, Tryz.ntmps20
    go_upto_region 2 with (go_at_call 23; refine (HC.out _ HP.out).mono ?_; rintro e w1 ⟨rfl, h1⟩; have HB := Lib.hid (chain HB.out h1); have HP := Lib.hid (HP.out.below h1); have HA := Lib.hid (HA.out.below h1); clear h1)
    go_wp2_with fail
    go_ret2
    exact ⟨_, rfl, .inl ⟨rfl, rfl⟩, HB.out⟩
end Bk
end Go.Proofs.YtpibeocngkjolaaGreatDoor
