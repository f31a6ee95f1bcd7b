/- block.Check, block.Levels. | block.Residue. -/
import Derived.Test.YtbmglemjfodfhaaGreatMgCosV
import Derived.Test.YtbmglemjfodfhaaGreatMgQuantBl
import Derived.Test.YtbmglemjfodfhaaGreatMgSpread
import Derived.BigQuiet
import Derived.Deep.RegionWith
set_option linter.unusedVariables false
set_option linter.unusedSimpArgs false
namespace Go.Proofs.YtbmglemjfodfhaaGreat
open Go.RowKit
namespace Bk
open Sc
def fst (i : Bool) : Int := if i then 1 else 0
def dE (dc : Int) (n : Nat) (i : Bool) : Int := if i then (if dc < 1 ∨ 255 < dc ∨ dc = 128 then 10 else 0) else (if dc ≠ 0 ∨ n = 0 then 2 else 0)
def bE (dc : Int) (n : Nat) (r l : Nat → Int) (i : Bool) : Int := if dE dc n i ≠ 0 then dE dc n i else sE (fst i) n r l
def At (V : World) (B : Nat) (vs : Array Value) (t : TypeId) : Prop := V.heap[B]? = some (.cells vs t (0, 0))
theorem At.new (w : World) (vs : Array Value) (t : TypeId) : At (w.alloc (.cells vs t)) w.heap.size vs t := heap_alloc_new w _
theorem At.lt {V : World} {B : Nat} {vs : Array Value} {t : TypeId} (h : At V B vs t) : B < V.heap.size := (Array.getElem?_eq_some_iff.1 h).1
theorem At.cell {V : World} {B : Nat} {vs : Array Value} {t : TypeId} (h : At V B vs t) (i : Nat) (v : Value) (hv : vs[i]? = some v) : V.cell? ⟨B, i, none⟩ = some v := by
  have h' : V.heap[B]? = some (.cells vs t (0, 0)) := h
  simp [World.cell?, h', hv]
theorem At.kept {V V' : World} {B : Nat} {vs : Array Value} {t : TypeId} {row : Option Nat} (h : At V B vs t) (hg : V.grownBy V' row) (hne : some B ≠ row) : At V' B vs t := (hg.block B h.lt hne).trans h
theorem At.below {V V' : World} {B : Nat} {vs : Array Value} {t : TypeId} (h : At V B vs t) (hb : Below V.heap.size V V') : At V' B vs t := h.kept (grown_of_below hb none) (by simp)
abbrev bv (dc : Int) (q : Option Addr) (n c : Nat) : Value := .agg #[.int .i64 dc, .slice q n c]
theorem dc_any (dc : Int) (q : Option Addr) (n c : Nat) (i : Bool) (hn : n ≤ 1000) (w : World) :
    Calls Tryz.prog 126 #[.agg #[.int .i64 dc, .slice q n c, .bool i]] w fun e w' => e = .returned (.int .i64 (dE dc n i)) ∧ Below w.heap.size w w' := by
  have hb := (Below.refl w.heap.size w).alloc (Nat.le_refl _) (.cells #[.int .i64 dc, .slice q n c, .bool i] 155)
  cases i
  · by_cases h1 : dc = 0
    · by_cases h2 : n = 0
      · rw [show dE dc n false = 2 by unfold dE; simp [h2]]
        subst h2
        have d1 : (dc != 0) = false := by simp [h1]
        go_enter Tryz.func126, Tryz.ntmps126
        go_wp2
        go_ret
        exact ⟨rfl, (Below.refl _ _).alloc (Nat.le_refl _) _⟩
      · rw [show dE dc n false = 0 by unfold dE; simp [h1, h2]]
        have d1 : (dc != 0) = false := by simp [h1]
        have d2 : ((n : Int) == 0) = false := by simp; omega
        go_enter Tryz.func126, Tryz.ntmps126
        go_wp2
        go_ret
        exact ⟨rfl, (Below.refl _ _).alloc (Nat.le_refl _) _⟩
    · rw [show dE dc n false = 2 by unfold dE; simp [h1]]
      have d1 : (dc != 0) = true := by simp [h1]
      go_enter Tryz.func126, Tryz.ntmps126
      go_wp2
      go_ret
      exact ⟨rfl, (Below.refl _ _).alloc (Nat.le_refl _) _⟩
  · by_cases h1 : dc < 1
    · rw [show dE dc n true = 10 by unfold dE; simp [h1]]
      go_enter Tryz.func126, Tryz.ntmps126
      go_wp2
      go_ret
      exact ⟨rfl, (Below.refl _ _).alloc (Nat.le_refl _) _⟩
    · by_cases h2 : 255 < dc
      · rw [show dE dc n true = 10 by unfold dE; simp [h2]]
        go_enter Tryz.func126, Tryz.ntmps126
        go_wp2
        go_ret
        exact ⟨rfl, (Below.refl _ _).alloc (Nat.le_refl _) _⟩
      · by_cases h3 : dc = 128
        · rw [show dE dc n true = 10 by unfold dE; simp [h3]]
          have d3 : (dc == 128) = true := by simp [h3]
          go_enter Tryz.func126, Tryz.ntmps126
          go_wp2
          go_ret
          exact ⟨rfl, (Below.refl _ _).alloc (Nat.le_refl _) _⟩
        · rw [show dE dc n true = 0 by unfold dE; simp [h3]; omega]
          have d3 : (dc == 128) = false := by simp [h3]
          go_enter Tryz.func126, Tryz.ntmps126
          go_wp2
          go_ret
          exact ⟨rfl, (Below.refl _ _).alloc (Nat.le_refl _) _⟩
theorem first_any (dc : Int) (q : Option Addr) (n c : Nat) (i : Bool) (w : World) :
    Calls Tryz.prog 136 #[.agg #[.int .i64 dc, .slice q n c, .bool i]] w fun e w' => e = .returned (.int .i64 (fst i)) ∧ Below w.heap.size w w' := by
  have hb := (Below.refl w.heap.size w).alloc (Nat.le_refl _) (.cells #[.int .i64 dc, .slice q n c, .bool i] 155)
  cases i <;> (go_enter Tryz.func136, Tryz.ntmps136; go_wp2; go_ret; exact ⟨rfl, hb⟩)
theorem pairs_any (dc : Int) (q : Option Addr) (n c : Nat) (r l : Nat → Int) (i : Bool) (hn : n ≤ 1000) (w : World) (hp : Pl w (.slice q n c) n r l) :
    Calls Tryz.prog 127 #[.agg #[.int .i64 dc, .slice q n c, .bool i]] w fun e w' => e = .returned (.int .i64 (sE (fst i) n r l)) ∧ Below w.heap.size w w' := by
  have HB := Lib.hid ((Below.refl w.heap.size w).alloc (Nat.le_refl _) (.cells #[.int .i64 dc, .slice q n c, .bool i] 155)).drew
  have HA := Lib.hid ((At.new w #[.int .i64 dc, .slice q n c, .bool i] 155).below (Below.refl _ _).drew)
  have HP := Lib.hid (hp.below HB.out)
  obtain ⟨E, hE⟩ : ∃ E, sE (fst i) n r l = E := ⟨_, rfl⟩
  have HE := Lib.hid hE
  rw [hE]
  clear hp hE
  go_enter Tryz.func127, Tryz.ntmps127
  go_wp2_with fail
  have k1 := HA.out.cell 1 _ rfl
  go_region_with (first
    | (go_at_call 136; refine (first_any _ _ _ _ _ _).mono ?_; rintro e w1 ⟨rfl, h1⟩; have HB := Lib.hid (chain HB.out h1); have HP := Lib.hid (HP.out.below h1); have HA := Lib.hid (HA.out.below h1); have k1 := HA.out.cell 1 _ rfl; clear h1)
    | (go_at_call 135; refine (Spread_any _ _ n r l _ HP.out hn).mono ?_; rintro e w2 ⟨v, rfl, _, h2⟩; rw [HE.out]; have HB := Lib.hid (chain HB.out h2); clear h2))
  all_goals (go_wp2_with fail; go_ret; exact ⟨rfl, HB.out⟩)
theorem run_index_one {P : Program} (w : World) {vs : Array Value} {m : Nat} {ty e : TypeId} (hu : P.underlying ty = some (.array m e)) (hagg : (isAgg e).run P w = .ok false w) (hi : (P.info? e).map (·.size) = some 1) (kk : IntKind) (j : Nat) (hj : j < m) (v : Value) (hv : vs[j]? = some v) :
    (Instr.index ty (.agg vs) (.int kk (j : Int))).run P w = .ok v w := by
  obtain ⟨i, hi, hs⟩ := info_size hi
  have hz : (sizeOf e).run P w = .ok 1 w := by simp [sizeOf, typeInfo, hi, hs]
  have hp : (part e vs j).run P w = .ok v w := by
    unfold part
    rw [Sem.run_bind, hagg]
    simp [hv]
  simp only [Instr.index, asIntOf, Sem.run_bind, Sem.run_pure, Result.andThen_ok, run_underlying hu w]
  rw [if_pos (by omega)]
  simp only [Sem.run_bind, hz, Result.andThen_ok, Int.toNat_natCast, Nat.mul_one, hp]
theorem not_agg (w : World) : (isAgg 156).run Tryz.prog w = .ok false w := by
  unfold isAgg
  rw [Sem.run_bind, run_underlying Tryz.underlying156 w]
  rfl
set_option maxRecDepth 100000 in
theorem Check_any (dc : Int) (q : Option Addr) (n c : Nat) (r l : Nat → Int) (i : Bool) (hn : n ≤ 1000) (w : World) (hp : Pl w (.slice q n c) n r l) :
    Calls Tryz.prog 84 #[bv dc q n c, .bool i] w fun e w' => e = .returned (.int .i64 (bE dc n r l i)) ∧ Below w.heap.size w w' := by
  have HD := Lib.hid (fun V => dc_any dc q n c i hn V)
  have HS := Lib.hid (fun V (h : Pl V (.slice q n c) n r l) => pairs_any dc q n c r l i hn V h)
  obtain ⟨D, hD⟩ : ∃ D, dE dc n i = D := ⟨_, rfl⟩
  obtain ⟨S, hS⟩ : ∃ S, sE (fst i) n r l = S := ⟨_, rfl⟩
  rw [hD] at HD
  rw [hS] at HS
  obtain ⟨E, hE⟩ : ∃ E, bE dc n r l i = E := ⟨_, rfl⟩
  have HE : Hid (E = if D ≠ 0 then D else S) := Lib.hid (by rw [← hE]; unfold bE; rw [hD, hS])
  rw [hE]
  clear hE hD hS
  have HB := Lib.hid (((Below.refl w.heap.size w).alloc (Nat.le_refl _) (.cells #[.int .i64 dc, .slice q n c] 74)).alloc (by simp) (.cells #[.int .i64 dc, .slice q n c, .bool i] 155))
  have HP := Lib.hid (hp.below HB.out)
  clear hp
  go_enter Tryz.func84, Tryz.ntmps84
  go_wp2_with fail
  go_loopw [17] (fun x wr => ∃ k : Nat, k ≤ 2 ∧ x = .int .i64 k ∧ Hid (1 ≤ k → D = 0) ∧ Hid (2 ≤ k → S = 0) ∧ Hid (Below w.heap.size w wr) ∧ Hid (Pl wr (.slice q n c) n r l)) (fun x _ => 2 - (intOf x).toNat)
  case atStart => exact ⟨0, by omega, rfl, Lib.hid (fun h => by omega), Lib.hid (fun h => by omega), HB, HP⟩
  case round =>
    obtain ⟨k, hk, rfl, H1, H2, HB, HP⟩ := hrel
    rcases (by omega : k = 0 ∨ k = 1 ∨ k = 2) with rfl | rfl | rfl
    · have ix : ∀ w', (Instr.index 157 (.agg #[.func (.func 126) #[.agg #[.int .i64 dc, .slice q n c, .bool i]] #[], .func (.func 127) #[.agg #[.int .i64 dc, .slice q n c, .bool i]] #[]]) (.int .i64 0)).run Tryz.prog w' = .ok (.func (.func 126) #[.agg #[.int .i64 dc, .slice q n c, .bool i]] #[]) w' := (fun w' => run_index_one w' (vs := #[.func (.func 126) #[.agg #[.int .i64 dc, .slice q n c, .bool i]] #[], .func (.func 127) #[.agg #[.int .i64 dc, .slice q n c, .bool i]] #[]]) Tryz.underlying157 (not_agg w') (by kernel_rfl) .i64 0 (by decide) _ rfl)
      by_cases hD : D = 0
      · have t1 : (D != 0) = false := by simp [hD]
        go_wp2_with (go_at_call 126; refine (HD.out _).mono ?_; rintro e w1 ⟨rfl, h1⟩; have HB := Lib.hid (chain HB.out h1); have HP := Lib.hid (HP.out.below h1); clear h1)
        go_roundw
        case rel => exact ⟨1, by omega, rfl, Lib.hid (fun _ => hD), Lib.hid (fun h => by omega), HB, HP⟩
        case measure => simp [intOf]
      · have t1 : (D != 0) = true := by simp [hD]
        go_wp2_with (go_at_call 126; refine (HD.out _).mono ?_; rintro e w1 ⟨rfl, h1⟩; have HB := Lib.hid (chain HB.out h1); clear h1)
        go_ret
        exact ⟨by rw [HE.out, if_pos hD]; rfl, HB.out⟩
    · have hD0 := H1.out (by omega)
      have ix : ∀ w', (Instr.index 157 (.agg #[.func (.func 126) #[.agg #[.int .i64 dc, .slice q n c, .bool i]] #[], .func (.func 127) #[.agg #[.int .i64 dc, .slice q n c, .bool i]] #[]]) (.int .i64 1)).run Tryz.prog w' = .ok (.func (.func 127) #[.agg #[.int .i64 dc, .slice q n c, .bool i]] #[]) w' := (fun w' => run_index_one w' (vs := #[.func (.func 126) #[.agg #[.int .i64 dc, .slice q n c, .bool i]] #[], .func (.func 127) #[.agg #[.int .i64 dc, .slice q n c, .bool i]] #[]]) Tryz.underlying157 (not_agg w') (by kernel_rfl) .i64 1 (by decide) _ rfl)
      by_cases hS : S = 0
      · have t1 : (S != 0) = false := by simp [hS]
        go_wp2_with (go_at_call 127; refine (HS.out _ HP.out).mono ?_; rintro e w1 ⟨rfl, h1⟩; have HB := Lib.hid (chain HB.out h1); have HP := Lib.hid (HP.out.below h1); clear h1)
        go_roundw
        case rel => exact ⟨2, by omega, rfl, Lib.hid (fun _ => hD0), Lib.hid (fun _ => hS), HB, HP⟩
        case measure => simp [intOf]
      · have t1 : (S != 0) = true := by simp [hS]
        go_wp2_with (go_at_call 127; refine (HS.out _ HP.out).mono ?_; rintro e w1 ⟨rfl, h1⟩; have HB := Lib.hid (chain HB.out h1); clear h1)
        go_ret
        exact ⟨by rw [HE.out, if_neg (by simp [hD0])]; rfl, HB.out⟩
    · have hD0 := H1.out (by omega)
      have hS0 := H2.out (by omega)
      go_wp2
      go_ret
      exact ⟨by rw [HE.out, if_neg (by simp [hD0]), hS0]; rfl, HB.out⟩
theorem Res.base {k : IntKind} {B B' : Nat} {w : World} {v : Value} {n : Nat} {f : Nat → Int} (h : Res k B w v n f) (hb : B' ≤ B) : Res k B' w v n f := by
  rcases h with h | ⟨g, c, e, h1, h2⟩
  · exact .inl h
  · exact .inr ⟨g, c, e, Nat.le_trans hb h1, h2⟩
def lN (dc : Int) (n : Nat) (r l : Nat → Int) (i : Bool) : Nat := if bE dc n r l i = 0 then 64 else 0
theorem bE_sE {dc : Int} {n : Nat} {r l : Nat → Int} {i : Bool} (h : bE dc n r l i = 0) : sE (fst i) n r l = 0 := by
  unfold bE at h
  by_cases hd : dE dc n i ≠ 0
  · rw [if_pos hd] at h; exact absurd h hd
  · rwa [if_neg hd] at h
set_option maxRecDepth 100000 in
set_option maxHeartbeats 2000000 in
theorem Levels_any (dc : Int) (q : Option Addr) (n c : Nat) (r l : Nat → Int) (i : Bool) (hn : n ≤ 1000) (w : World) (hp : Pl w (.slice q n c) n r l) :
    Calls Tryz.prog 93 #[bv dc q n c, .bool i] w fun e w' => ∃ v, e = .returned (.tuple #[v, .int .i64 (bE dc n r l i)]) ∧ Res .i64 w.heap.size w' v (lN dc n r l i) (spF (fst i) r l n) ∧ Below w.heap.size w w' := by
  have HC := Lib.hid (fun V (h : Pl V (.slice q n c) n r l) => Check_any dc q n c r l i hn V h)
  have HE := Lib.hid (@bE_sE dc n r l i)
  have HN : lN dc n r l i = if bE dc n r l i = 0 then 64 else 0 := rfl
  obtain ⟨E, hE⟩ : ∃ E, bE dc n r l i = E := ⟨_, rfl⟩
  rw [hE] at HC HE HN
  rw [hE, HN]
  clear hE HN
  have HSp := Lib.hid (fun V (h : Pl V (.slice q n c) n r l) => Spread_any _ (fst i) n r l V h hn)
  unfold Spreads at HSp
  obtain ⟨F, hF⟩ : ∃ F, spF (fst i) r l n = F := ⟨_, rfl⟩
  rw [hF] at HSp
  rw [hF]
  clear hF
  have HB := Lib.hid ((Below.refl w.heap.size w).alloc (Nat.le_refl _) (.cells #[.int .i64 dc, .slice q n c] 74))
  have HA := Lib.hid (At.new w #[.int .i64 dc, .slice q n c] 74)
  have HP := Lib.hid (hp.below HB.out)
  clear hp
  by_cases h0 : E = 0
  · rw [if_pos h0]
    have t1 : (E != 0) = false := by simp [h0]
    go_enter Tryz.func93, Tryz.ntmps93
    go_upto_region 2 with (go_at_call 84; refine (HC.out _ HP.out).mono ?_; rintro e w1 ⟨rfl, h1⟩; have HB := Lib.hid (chain HB.out h1); have HP := Lib.hid (HP.out.below h1); have HA := Lib.hid (HA.out.below h1); clear h1)
    have k0 := HA.out.cell 0 _ rfl
    have k1 := HA.out.cell 1 _ rfl
    have HZ := Lib.hid (HE.out h0)
    have h00 := Lib.hid h0
    clear h0
    go_wp2_with fail
    have HB := Lib.hid HB.out.drew
    have HP := Lib.hid (HP.out.below (Below.refl _ _).drew)
    have HA := Lib.hid (HA.out.below (Below.refl _ _).drew)
    have k0 := HA.out.cell 0 _ rfl
    have k1 := HA.out.cell 1 _ rfl
    have sz := HB.out.size
    go_region_with (first
      | (go_at_call 136; refine (first_any _ _ _ _ _ _).mono ?_; rintro e w2 ⟨rfl, h1⟩; have HB := Lib.hid (chain HB.out h1); have HP := Lib.hid (HP.out.below h1); have HA := Lib.hid (HA.out.below h1); have k0 := HA.out.cell 0 _ rfl; have k1 := HA.out.cell 1 _ rfl; have sz := HB.out.size; clear h1)
      | (go_at_call 135; refine (HSp.out _ HP.out).mono ?_; rintro e w3 ⟨v, rfl, hR, h2⟩; rw [HZ.out]; have HB := Lib.hid (chain HB.out h2); have HR := Lib.hid hR; clear h2 hR))
    all_goals (go_wp2_with fail; go_ret2; have hR := HR.out; unfold sN at hR; rw [if_pos HZ.out] at hR; exact ⟨_, by rw [h00.out]; rfl, Res.base hR (by omega), HB.out⟩)
  · have t1 : (E != 0) = true := by simp [h0]
    rw [if_neg h0]
    go_enter Tryz.func93, Tryz.ntmps93
    go_upto_region 2 with (go_at_call 84; refine (HC.out _ HP.out).mono ?_; rintro e w1 ⟨rfl, h1⟩; have HB := Lib.hid (chain HB.out h1); have HP := Lib.hid (HP.out.below h1); have HA := Lib.hid (HA.out.below h1); clear h1)
    go_wp2_with fail
    go_ret2
    exact ⟨_, rfl, .inl ⟨rfl, rfl⟩, HB.out⟩
end Bk
end Go.Proofs.YtbmglemjfodfhaaGreat
namespace Go.Proofs.YtbmglemjfodfhaaGreat
open Go.RowKit
namespace Bk
open Sc Qu
theorem spF_bd (first : Int) (r l : Nat → Int) : ∀ n, spE first r l n = 0 → ∀ p, -127 ≤ spF first r l n p ∧ spF first r l n p ≤ 127
  | 0, _, p => by simp [spF]
  | n + 1, h, p => by
    obtain ⟨h1, _, h3, _, _⟩ := spE_cases h
    have ih := spF_bd first r l n h1 p
    unfold lvl at h3
    have h3 := of_decide_eq_true h3
    unfold spF
    split
    · exact h3
    · exact ih
theorem sp_levels (i : Bool) (n : Nat) (r l : Nat → Int) (h : sE (fst i) n r l = 0) (p : Nat) : -127 ≤ spF (fst i) r l n p ∧ spF (fst i) r l n p ≤ 127 := by
  unfold sE at h
  rw [if_pos (by cases i <;> simp [fst])] at h
  exact spF_bd _ _ _ _ h p
def wF (dc : Int) (n : Nat) (r l : Nat → Int) (i : Bool) (q : Int) : Nat → Int := if i then aV (spF 1 r l n) q dc else fun j => val (spF 0 r l n j) q
def rsE (dc : Int) (n : Nat) (r l : Nat → Int) (i : Bool) (q : Int) : Int := if bE dc n r l i ≠ 0 then bE dc n r l i else if q < 1 ∨ 31 < q then 3 else 0
def rsN (dc : Int) (n : Nat) (r l : Nat → Int) (i : Bool) (q : Int) : Nat := if rsE dc n r l i q = 0 then 64 else 0
theorem ok_all (f : Nat → Int) (q : Int) (h1 : 1 ≤ q) (h2 : q ≤ 31) (hf : ∀ p, -127 ≤ f p ∧ f p ≤ 127) : okAll f q 64 = true := by
  unfold okAll
  rw [List.all_eq_true]
  intro i _
  unfold okB
  exact decide_eq_true ⟨(hf i).1, (hf i).2, h1, h2⟩
theorem dcV_bd (c : Int) : -2048 ≤ dcV c ∧ dcV c ≤ 2047 := by unfold dcV; split <;> (try split) <;> (try split) <;> omega
theorem bE_dE {dc : Int} {n : Nat} {r l : Nat → Int} {i : Bool} (h : bE dc n r l i = 0) : dE dc n i = 0 := by
  unfold bE at h
  by_cases hd : dE dc n i ≠ 0
  · rw [if_pos hd] at h; exact h
  · simpa using hd
theorem dE_dcE {dc : Int} {n : Nat} (h : dE dc n true = 0) : dcE dc = 0 := by
  unfold dE at h
  rw [if_pos rfl] at h
  by_cases h1 : dc < 1 ∨ 255 < dc ∨ dc = 128
  · rw [if_pos h1] at h; exact absurd h (by decide)
  · unfold dcE; rw [if_neg (by omega), if_neg (by omega)]
theorem ok_v (f : Nat → Int) (h : ∀ p, -2048 ≤ f p ∧ f p ≤ 2047) : Co.okV f 64 = true := by
  unfold Co.okV Co.okR
  rw [List.all_eq_true]
  intro i _
  unfold Co.inR
  have := h i
  first
    | exact decide_eq_true this
    | simp; omega
theorem wF_bd (dc : Int) (n : Nat) (r l : Nat → Int) (i : Bool) (q : Int) (h1 : 1 ≤ q) (p : Nat) : -2048 ≤ wF dc n r l i q p ∧ wF dc n r l i q p ≤ 2047 := by
  unfold wF
  cases i
  · exact val_bd _ _ h1
  · rw [if_pos rfl]
    unfold aV
    split
    · exact dcV_bd dc
    · exact val_bd _ _ h1
set_option maxRecDepth 100000 in
set_option maxHeartbeats 2000000 in
theorem Residue_any (dc : Int) (q : Option Addr) (n c : Nat) (r l : Nat → Int) (i : Bool) (by' : Int) (hn : n ≤ 1000) (w : World) (hp : Pl w (.slice q n c) n r l) :
    Calls Tryz.prog 53 #[bv dc q n c, .int .i64 by', .bool i] w fun e w' => ∃ v, e = .returned (.tuple #[v, .int .i64 (rsE dc n r l i by')]) ∧ Res .i64 w.heap.size w' v (rsN dc n r l i by') (Co.invC (wF dc n r l i by')) ∧ Below w.heap.size w w' := by
  have HL := Lib.hid (fun V (h : Pl V (.slice q n c) n r l) => Levels_any dc q n c r l i hn V h)
  have HB := Lib.hid ((Below.refl w.heap.size w).alloc (Nat.le_refl _) (.cells #[.int .i64 dc, .slice q n c] 74))
  have HA := Lib.hid (At.new w #[.int .i64 dc, .slice q n c] 74)
  have HP := Lib.hid (hp.below HB.out)
  clear hp
  by_cases h0 : bE dc n r l i = 0
  · rw [h0, show lN dc n r l i = 64 from if_pos h0] at HL
    obtain ⟨F, hF⟩ : ∃ F, spF (fst i) r l n = F := ⟨_, rfl⟩
    have bF : ∀ p, -127 ≤ F p ∧ F p ≤ 127 := fun p => by rw [← hF]; exact sp_levels i n r l (bE_sE h0) p
    by_cases hq : by' < 1 ∨ 31 < by'
    · have e3 : rsE dc n r l i by' = 3 := by unfold rsE; rw [if_neg (by simp [h0]), if_pos hq]
      rw [e3, show rsN dc n r l i by' = 0 by unfold rsN; rw [e3]; rfl]
      clear e3
      obtain ⟨R, hR⟩ : ∃ R, Co.invC (wF dc n r l i by') = R := ⟨_, rfl⟩
      rw [hR]
      rw [hF] at HL
      clear hR hF bF h0
      go_enter Tryz.func53, Tryz.ntmps53
      go_upto_region 2 with (go_at_call 93; refine (HL.out _ HP.out).mono ?_; rintro e w1 ⟨v1, rfl, hR, h1⟩; have HB := Lib.hid (chain HB.out h1); clear h1 hR)
      by_cases hq1 : by' < 1
      · go_wp2_with fail
        go_ret2
        exact ⟨_, rfl, .inl ⟨rfl, rfl⟩, HB.out⟩
      · have hq2 : 31 < by' := by omega
        go_wp2_with fail
        go_ret2
        exact ⟨_, rfl, .inl ⟨rfl, rfl⟩, HB.out⟩
    · have e3 : rsE dc n r l i by' = 0 := by unfold rsE; rw [if_neg (by simp [h0]), if_neg hq]
      rw [e3, show rsN dc n r l i by' = 64 by unfold rsN; rw [e3]; rfl]
      clear e3
      have hq1 : ¬ by' < 1 := by omega
      have hq2 : ¬ 31 < by' := by omega
      have okA := ok_all F by' (by omega) (by omega) bF
      have okI := ok_v _ (wF_bd dc n r l i by' (by omega))
      have HI : Hid (∀ V v, Sl .i64 V v 64 (wF dc n r l i by') → Calls Tryz.prog 96 #[v] V fun e w' => ∃ v', e = .returned (.tuple #[v', .int .i64 0]) ∧ Res .i64 V.heap.size w' v' 64 (Co.invC (wF dc n r l i by')) ∧ Below V.heap.size V w') := Lib.hid (fun V v hs => by
        have := Co.Inverse_any v 64 _ V hs
        unfold Co.Inverts at this
        rw [show Co.vE 64 (wF dc n r l i by') = 0 by unfold Co.vE; rw [if_pos rfl, okI]; rfl, show Co.vN 64 (wF dc n r l i by') = 64 by unfold Co.vN; rw [if_pos rfl, okI]; rfl] at this
        exact this)
      have HE := Lib.hid (bE_dE h0)
      cases i
      · have HW : Hid (∀ V v, Sl .i64 V v 64 F → Calls Tryz.prog 95 #[v, .int .i64 by'] V fun e w' => ∃ v', e = .returned (.tuple #[v', .int .i64 0]) ∧ Res .i64 V.heap.size w' v' 64 (wF dc n r l false by') ∧ Below V.heap.size V w') := Lib.hid (fun V v hs => by
          have := Inter_any v 64 F by' V hs
          unfold Inters at this
          rw [show iE 64 F by' = 0 by unfold iE; rw [if_pos rfl, okA]; rfl, show iN 64 F by' = 64 by unfold iN; rw [if_pos rfl, okA]; rfl] at this
          rw [show wF dc n r l false by' = fun j => val (F j) by' by unfold wF; rw [← hF]; rfl]
          exact this)
        obtain ⟨G, hG⟩ : ∃ G, wF dc n r l false by' = G := ⟨_, rfl⟩
        rw [hG] at HI HW
        rw [hG]
        obtain ⟨R, hR⟩ : ∃ R, Co.invC G = R := ⟨_, rfl⟩
        rw [hR] at HI
        rw [hR]
        rw [hF] at HL
        clear hR hF bF h0 hG okA okI
        go_enter Tryz.func53, Tryz.ntmps53
        go_wp2_with (first
          | (go_at_call 93; refine (HL.out _ HP.out).mono ?_; rintro e w1 ⟨v1, rfl, hR, h1⟩; have HB := Lib.hid (chain HB.out h1); have HR1 := Lib.hid hR; clear h1 hR)
          | (go_at_call 95; refine (HW.out _ _ HR1.out.sl).mono ?_; rintro e w2 ⟨v2, rfl, hR, h1⟩; have HB := Lib.hid (chain HB.out h1); have HR2 := Lib.hid hR; clear h1 hR)
          | (go_at_call 96; refine (HI.out _ _ HR2.out.sl).mono ?_; rintro e w3 ⟨v3, rfl, hR, h1⟩; have sz := HB.out.size; have HB := Lib.hid (chain HB.out h1); have HR3 := Lib.hid hR; clear h1 hR))
        go_ret2
        exact ⟨_, rfl, Res.base HR3.out sz, HB.out⟩
      · have e0 := dE_dcE HE.out
        have HW : Hid (∀ V v, Sl .i64 V v 64 F → Calls Tryz.prog 94 #[v, .int .i64 by', .int .i64 dc] V fun e w' => ∃ v', e = .returned (.tuple #[v', .int .i64 0]) ∧ Res .i64 V.heap.size w' v' 64 (wF dc n r l true by') ∧ Below V.heap.size V w') := Lib.hid (fun V v hs => by
          have := Intra_any v 64 F by' dc V hs
          unfold Intras at this
          have e1 : iE 64 F by' = 0 := by unfold iE; rw [if_pos rfl, okA]; rfl
          rw [show aE 64 F by' dc = 0 by unfold aE; rw [if_pos e1, e0], show aN 64 F by' dc = 64 by unfold aN; rw [if_pos ⟨e1, e0⟩]] at this
          rw [show wF dc n r l true by' = aV F by' dc by unfold wF; rw [← hF]; rfl]
          exact this)
        obtain ⟨G, hG⟩ : ∃ G, wF dc n r l true by' = G := ⟨_, rfl⟩
        rw [hG] at HI HW
        rw [hG]
        obtain ⟨R, hR⟩ : ∃ R, Co.invC G = R := ⟨_, rfl⟩
        rw [hR] at HI
        rw [hR]
        rw [hF] at HL
        clear hR hF bF h0 hG okA okI e0
        have k0 := HA.out.cell 0 _ rfl
        go_enter Tryz.func53, Tryz.ntmps53
        go_wp2_with (first
          | (go_at_call 93; refine (HL.out _ HP.out).mono ?_; rintro e w1 ⟨v1, rfl, hR, h1⟩; have HB := Lib.hid (chain HB.out h1); have HR1 := Lib.hid hR; have HA := Lib.hid (HA.out.below h1); have k0 := HA.out.cell 0 _ rfl; clear h1 hR)
          | (go_at_call 94; refine (HW.out _ _ HR1.out.sl).mono ?_; rintro e w2 ⟨v2, rfl, hR, h1⟩; have HB := Lib.hid (chain HB.out h1); have HR2 := Lib.hid hR; clear h1 hR)
          | (go_at_call 96; refine (HI.out _ _ HR2.out.sl).mono ?_; rintro e w3 ⟨v3, rfl, hR, h1⟩; have sz := HB.out.size; have HB := Lib.hid (chain HB.out h1); have HR3 := Lib.hid hR; clear h1 hR))
        go_ret2
        exact ⟨_, rfl, Res.base HR3.out sz, HB.out⟩
  · obtain ⟨E, hE⟩ : ∃ E, bE dc n r l i = E := ⟨_, rfl⟩
    have e3 : rsE dc n r l i by' = E := by unfold rsE; rw [if_pos h0, hE]
    rw [e3, show rsN dc n r l i by' = 0 by unfold rsN; rw [e3, ← hE, if_neg h0]]
    clear e3
    rw [show lN dc n r l i = 0 from if_neg h0, hE] at HL
    rw [hE] at h0
    have t1 : (E != 0) = true := by simp [h0]
    obtain ⟨R, hR⟩ : ∃ R, Co.invC (wF dc n r l i by') = R := ⟨_, rfl⟩
    obtain ⟨F, hF⟩ : ∃ F, spF (fst i) r l n = F := ⟨_, rfl⟩
    rw [hR]
    rw [hF] at HL
    clear hR hF h0 hE
    go_enter Tryz.func53, Tryz.ntmps53
    go_wp2_with (go_at_call 93; refine (HL.out _ HP.out).mono ?_; rintro e w1 ⟨v1, rfl, hR, h1⟩; have HB := Lib.hid (chain HB.out h1); clear h1 hR)
    go_ret2
    exact ⟨_, rfl, .inl ⟨rfl, rfl⟩, HB.out⟩
end Bk
end Go.Proofs.YtbmglemjfodfhaaGreat
