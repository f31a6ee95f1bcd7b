/- The document's Spread. -/
import Derived.Test.YtbmglemjfodfhaaGreatMgSpread
import Derived.Deep.Cut
import Derived.Deep.RegionWith
set_option linter.unusedVariables false
set_option linter.unusedSimpArgs false

namespace Go.Proofs.YtbmglemjfodfhaaGreat
open Go.RowKit
namespace Sc

theorem make64s (w : World) : (Instr.makeSlice 87 (.int .i64 64) (.int .i64 64)).run Tryz.prog w = .ok (.slice (some ⟨w.heap.size, 0, none⟩) 64 64) (w.alloc (.cells (rowOf .i64 64 (fun _ => 0)) 3)) := by kernel_rfl
theorem zr_new (w : World) (t : TypeId) : Arr (w.alloc (.cells (rowOf .i64 64 (fun _ => 0)) t)) .i64 w.heap.size 64 (fun _ => 0) := Arr.new w .i64 _ t 64 _ (fun i hi => rowOf_get _ _ _ _ hi)
/-- a block of noughts, and the order. -/
def ZP (w wx : World) (u6 u7 u8 : Value) (first : Int) : Prop :=
  ∃ go gp, u6 = .slice (some ⟨go, 0, none⟩) 64 64 ∧ u7 = .int .i64 first ∧ u8 = .slice (some ⟨gp, 0, none⟩) 64 64 ∧ go ≠ gp ∧ w.heap.size ≤ go ∧ w.heap.size ≤ gp ∧ Arr wx .i64 go 64 (fun _ => 0) ∧ Arr wx .i64 gp 64 plF ∧ Below w.heap.size w wx
theorem zp_a (w : World) (t : TypeId) (first : Int) : ZP w ((w.alloc (.cells (rowOf .i64 64 (fun _ => 0)) t)).alloc (.cells (rowOf .i64 64 plF) t)).drew (.slice (some ⟨w.heap.size, 0, none⟩) 64 64) (.int .i64 first) (.slice (some ⟨w.heap.size + 1, 0, none⟩) 64 64) first := by
  have m2 := pl_new (w.alloc (.cells (rowOf .i64 64 (fun _ => 0)) t)) t
  rw [World.size_alloc] at m2
  exact ⟨_, _, rfl, rfl, rfl, by omega, Nat.le_refl _, by omega, ((zr_new w t).alloc _).drew, m2.drew, (((Below.refl w.heap.size w).alloc (Nat.le_refl _) _).alloc (by simp) _).drew⟩
theorem zp_b (w : World) (t : TypeId) (first : Int) : ZP w ((w.alloc (.cells (rowOf .i64 64 plF) t)).alloc (.cells (rowOf .i64 64 (fun _ => 0)) t)).drew (.slice (some ⟨w.heap.size + 1, 0, none⟩) 64 64) (.int .i64 first) (.slice (some ⟨w.heap.size, 0, none⟩) 64 64) first := by
  have m2 := zr_new (w.alloc (.cells (rowOf .i64 64 plF) t)) t
  rw [World.size_alloc] at m2
  exact ⟨_, _, rfl, rfl, rfl, by omega, by omega, Nat.le_refl _, m2.drew, ((pl_new w t).alloc _).drew, (((Below.refl w.heap.size w).alloc (Nat.le_refl _) _).alloc (by simp) _).drew⟩
theorem rspread_first (v : Value) (first : Int) (n : Nat) (r l : Nat → Int) (w : World) (hf : ¬ (first = 0 ∨ first = 1)) :
    Calls Tryz.prog 146 #[v, .int .i64 first] w (Spreads w first n r l) := by
  have E1 : Hid (sE first n r l = 3) := Lib.hid (by unfold sE; rw [if_neg hf])
  have E2 : Hid (sN first n r l = 0) := Lib.hid (by unfold sN; rw [E1.out]; rfl)
  have k0 : (first == 0) = false := by simp; omega
  have k1 : (first == 1) = false := by simp; omega
  have k2 : (first != 0) = true := by simp; omega
  have k3 : (first != 1) = true := by simp; omega
  clear hf
  go_enter Tryz.func146, Tryz.ntmps146
  go_wp2
  go_ret2
  exact ⟨.slice none 0 0, by rw [E1.out]; rfl, by rw [E2.out]; exact .inl ⟨rfl, rfl⟩, Below.refl _ _⟩

set_option maxRecDepth 100000 in
set_option maxHeartbeats 4000000 in
theorem rspread_in0 (v : Value) (a : Option Addr) (n c : Nat) (hv : v = .slice a n c) (r l : Nat → Int) (w : World) (hs : Pl w v n r l) (hn : n ≤ 1000) :
    Calls Tryz.prog 146 #[v, .int .i64 0] w (Spreads w 0 n r l) := by
  subst hv
  have RD : Hid (∀ i, i < n → ∃ b o, a = some ⟨b, o, none⟩ ∧ b < w.heap.size ∧ Pairs w b o n r l) := Lib.hid (by
    obtain ⟨a', c', he, _, _, h3⟩ := hs
    cases he
    intro i hi
    rcases h3 with ⟨h0, _⟩ | ⟨b, o, rfl, hb, hI⟩
    · omega
    · exact ⟨b, o, rfl, hb, hI⟩)
  have HE : Hid (sE 0 n r l = spE 0 r l n) := Lib.hid (by unfold sE; rw [if_pos (by decide)])
  have HN : Hid (sN 0 n r l = if spE 0 r l n = 0 then 64 else 0) := Lib.hid (by unfold sN; rw [HE.out])
  have hmk := make64s
  clear hs
  go_enter Tryz.func146, Tryz.ntmps146
  go_upto_region 3 with fail
  go_cut [6, 7, 8] from 16 (fun u6 u7 u8 wx => ZP w wx u6 u7 u8 0)
  case first =>
    go_region_with (go_at_call 167; refine (rorder_any _).mono ?_; rintro e w1 ⟨rfl, rfl⟩)
    all_goals (go_wp2_with fail; go_meet)
    all_goals first
      | exact zp_a w 3 0
      | exact zp_b w 3 0
  case rest =>
    obtain ⟨go, gp, rfl, rfl, rfl, hne, p1, p2, hA, hP, hB⟩ := hcut
    have HA := Lib.hid hA
    have HP := Lib.hid hP
    have HB := Lib.hid hB
    clear hA hP hB hmk
    go_wp2_with fail
    go_loopw [7, 9] (fun at_ i wr => ∃ k : Nat, k ≤ n ∧ at_ = .int .i64 (spA 0 r k) ∧ i = .int .i64 k ∧ spE 0 r l k = 0 ∧ Arr wr .i64 go 64 (spF 0 r l k) ∧ Arr wr .i64 gp 64 plF ∧ Below w.heap.size w wr) (fun _ i _ => n - (intOf i).toNat)
    case atStart => exact ⟨0, by omega, rfl, rfl, rfl, HA.out, HP.out, HB.out⟩
    case round =>
      obtain ⟨k, hk, rfl, rfl, hE, hA, hP, hB⟩ := hrel
      by_cases hkn : k < n
      · obtain ⟨b, o, rfl, hb, hI⟩ := RD.out k hkn
        obtain ⟨c1, c2⟩ := (hI.below hB hb) k hkn
        have kb : (0 : Int) ≤ (k : Int) ∧ (k : Int) < (n : Int) := by omega
        have ab := spA_bd (by decide) k hE
        have se := spE_succ 0 r l k
        rw [if_neg (by rw [hE]; simp)] at se
        obtain ⟨A, hAA⟩ : ∃ A, A = spA 0 r k := ⟨_, rfl⟩
        have sa : Hid (spA 0 r (k + 1) = A + r k + 1) := Lib.hid (by rw [hAA]; rfl)
        have sf : Hid (∀ p, p = at' (A + r k).toNat → spF 0 r l (k + 1) = fun i => if i = p then l k else spF 0 r l k i) := Lib.hid (by rw [hAA]; rintro p rfl; rfl)
        rw [← hAA] at ab se ⊢
        have HA := Lib.hid hA
        have HP := Lib.hid hP
        have HB := Lib.hid hB
        clear hA hP hB hI hE hAA
        by_cases g1 : l k = 0 ∨ lvl (l k) = false
        · rw [if_pos g1] at se
          have ES : Hid (spE 0 r l n = 10) := Lib.hid (by rw [spE_stay (by rw [se]; simp) n (by omega), se])
          clear se
          by_cases g0 : l k = 0
          · have kz : (l k == 0) = true := by simp [g0]
            go_wp2
            go_ret2
            exact ⟨.slice none 0 0, by rw [HE.out, ES.out]; rfl, by rw [HN.out, ES.out]; exact .inl ⟨rfl, rfl⟩, HB.out⟩
          · have kz : (l k == 0) = false := by simp [g0]
            have gl : ¬ (-127 ≤ l k ∧ l k ≤ 127) := by
              rcases g1 with g1 | g1
              · exact absurd g1 g0
              · simpa [lvl] using g1
            by_cases g3 : l k < -127
            · have d1 : decide (l k < -127) = true := by simp; omega
              go_wp2
              go_ret2
              exact ⟨.slice none 0 0, by rw [HE.out, ES.out]; rfl, by rw [HN.out, ES.out]; exact .inl ⟨rfl, rfl⟩, HB.out⟩
            · have d1 : decide (l k < -127) = false := by simp; omega
              have d2 : decide (127 < l k) = true := by simp; omega
              go_wp2
              go_ret2
              exact ⟨.slice none 0 0, by rw [HE.out, ES.out]; rfl, by rw [HN.out, ES.out]; exact .inl ⟨rfl, rfl⟩, HB.out⟩
        · rw [if_neg g1] at se
          have g0 : l k ≠ 0 := fun e => g1 (.inl e)
          have gl : -127 ≤ l k ∧ l k ≤ 127 := by
            by_cases e : -127 ≤ l k ∧ l k ≤ 127
            · exact e
            · exact absurd (.inr (by unfold lvl; simpa using e)) g1
          have kz : (l k == 0) = false := by simp [g0]
          have d3 : decide (l k < -127) = false := by simp; omega
          have d4 : decide (127 < l k) = false := by simp; omega
          clear g1
          by_cases g2 : r k < 0 ∨ 63 - A < r k
          · rw [if_pos g2] at se
            have ES : Hid (spE 0 r l n = 11) := Lib.hid (by rw [spE_stay (by rw [se]; simp) n (by omega), se])
            clear se
            by_cases g3 : r k < 0
            · have d1 : decide (r k < 0) = true := by simp [g3]
              go_wp2
              go_ret2
              exact ⟨.slice none 0 0, by rw [HE.out, ES.out]; rfl, by rw [HN.out, ES.out]; exact .inl ⟨rfl, rfl⟩, HB.out⟩
            · have d1 : decide (r k < 0) = false := by simp; omega
              have d2 : decide (63 - A < r k) = true := by simp; omega
              go_wp2
              go_ret2
              exact ⟨.slice none 0 0, by rw [HE.out, ES.out]; rfl, by rw [HN.out, ES.out]; exact .inl ⟨rfl, rfl⟩, HB.out⟩
          · rw [if_neg g2] at se
            have SE := Lib.hid se
            have d1 : decide (r k < 0) = false := by simp; omega
            have d2 : decide (63 - A < r k) = false := by simp; omega
            obtain ⟨q, hq⟩ : ∃ q : Nat, A + r k = (q : Int) := ⟨(A + r k).toNat, by omega⟩
            have q64 : q < 64 := by omega
            have qb : (0 : Int) ≤ (q : Int) ∧ (q : Int) < 64 := by omega
            obtain ⟨p, hp⟩ : ∃ p, p = at' q := ⟨_, rfl⟩
            have p64 : p < 64 := by rw [hp]; exact at_lt0 q q64
            have pb : (0 : Int) ≤ (p : Int) ∧ (p : Int) < 64 := by omega
            have PE : plF q = (p : Int) := by rw [hp]; rfl
            have FE := Lib.hid (sf.out p (by rw [hq, hp]; rfl))
            have cP := (HP.out q q64).1
            rw [PE] at cP
            have cA := HA.out p p64
            have x1 : IntKind.i64.wrap (A + r k) = A + r k := IntWalk.i64_in _ (by omega)
            clear se g2 hp PE sf
            go_wp2_with fail
            go_region
            go_wp2
            go_roundw
            case rel =>
              refine ⟨k + 1, by omega, by rw [sa.out, hq], by go_num, SE.out, ?_, ?_, ?_⟩
              · rw [FE.out]
                exact (HA.out.set p (l k)).drew
              · exact (HP.out.far (a := ⟨go, p, none⟩) hne _).drew
              · exact (HB.out.setCell (p := ⟨go, p, none⟩) p1 _).drew
            case measure => simp [intOf]; omega
      · have hE' : spE 0 r l n = 0 := by
          obtain rfl : k = n := by omega
          exact hE
        have hA' : Arr wr .i64 go 64 (spF 0 r l n) := by
          obtain rfl : k = n := by omega
          exact hA
        have HE2 : Hid (sE 0 n r l = 0) := Lib.hid (by rw [HE.out, hE'])
        have HN2 : Hid (sN 0 n r l = 64) := Lib.hid (by rw [HN.out, if_pos hE'])
        have HA := Lib.hid hA'
        have HB := Lib.hid hB
        have hk' : n ≤ k := by omega
        clear hA hP hB hE hE' hA' RD
        go_wp2
        go_ret2
        exact ⟨_, by rw [HE2.out]; rfl, by rw [HN2.out]; exact .inr ⟨go, 64, rfl, p1, HA.out.lt (by omega), Nat.le_refl _, by decide, HA.out⟩, HB.out⟩

set_option maxRecDepth 100000 in
set_option maxHeartbeats 4000000 in
theorem rspread_in1 (v : Value) (a : Option Addr) (n c : Nat) (hv : v = .slice a n c) (r l : Nat → Int) (w : World) (hs : Pl w v n r l) (hn : n ≤ 1000) :
    Calls Tryz.prog 146 #[v, .int .i64 1] w (Spreads w 1 n r l) := by
  subst hv
  have RD : Hid (∀ i, i < n → ∃ b o, a = some ⟨b, o, none⟩ ∧ b < w.heap.size ∧ Pairs w b o n r l) := Lib.hid (by
    obtain ⟨a', c', he, _, _, h3⟩ := hs
    cases he
    intro i hi
    rcases h3 with ⟨h0, _⟩ | ⟨b, o, rfl, hb, hI⟩
    · omega
    · exact ⟨b, o, rfl, hb, hI⟩)
  have HE : Hid (sE 1 n r l = spE 1 r l n) := Lib.hid (by unfold sE; rw [if_pos (by decide)])
  have HN : Hid (sN 1 n r l = if spE 1 r l n = 0 then 64 else 0) := Lib.hid (by unfold sN; rw [HE.out])
  have hmk := make64s
  clear hs
  go_enter Tryz.func146, Tryz.ntmps146
  go_upto_region 3 with fail
  go_cut [6, 7, 8] from 16 (fun u6 u7 u8 wx => ZP w wx u6 u7 u8 1)
  case first =>
    go_region_with (go_at_call 167; refine (rorder_any _).mono ?_; rintro e w1 ⟨rfl, rfl⟩)
    all_goals (go_wp2_with fail; go_meet)
    all_goals first
      | exact zp_a w 3 1
      | exact zp_b w 3 1
  case rest =>
    obtain ⟨go, gp, rfl, rfl, rfl, hne, p1, p2, hA, hP, hB⟩ := hcut
    have HA := Lib.hid hA
    have HP := Lib.hid hP
    have HB := Lib.hid hB
    clear hA hP hB hmk
    go_wp2_with fail
    go_loopw [7, 9] (fun at_ i wr => ∃ k : Nat, k ≤ n ∧ at_ = .int .i64 (spA 1 r k) ∧ i = .int .i64 k ∧ spE 1 r l k = 0 ∧ Arr wr .i64 go 64 (spF 1 r l k) ∧ Arr wr .i64 gp 64 plF ∧ Below w.heap.size w wr) (fun _ i _ => n - (intOf i).toNat)
    case atStart => exact ⟨0, by omega, rfl, rfl, rfl, HA.out, HP.out, HB.out⟩
    case round =>
      obtain ⟨k, hk, rfl, rfl, hE, hA, hP, hB⟩ := hrel
      by_cases hkn : k < n
      · obtain ⟨b, o, rfl, hb, hI⟩ := RD.out k hkn
        obtain ⟨c1, c2⟩ := (hI.below hB hb) k hkn
        have kb : (0 : Int) ≤ (k : Int) ∧ (k : Int) < (n : Int) := by omega
        have ab := spA_bd (by decide) k hE
        have se := spE_succ 1 r l k
        rw [if_neg (by rw [hE]; simp)] at se
        obtain ⟨A, hAA⟩ : ∃ A, A = spA 1 r k := ⟨_, rfl⟩
        have sa : Hid (spA 1 r (k + 1) = A + r k + 1) := Lib.hid (by rw [hAA]; rfl)
        have sf : Hid (∀ p, p = at' (A + r k).toNat → spF 1 r l (k + 1) = fun i => if i = p then l k else spF 1 r l k i) := Lib.hid (by rw [hAA]; rintro p rfl; rfl)
        rw [← hAA] at ab se ⊢
        have HA := Lib.hid hA
        have HP := Lib.hid hP
        have HB := Lib.hid hB
        clear hA hP hB hI hE hAA
        by_cases g1 : l k = 0 ∨ lvl (l k) = false
        · rw [if_pos g1] at se
          have ES : Hid (spE 1 r l n = 10) := Lib.hid (by rw [spE_stay (by rw [se]; simp) n (by omega), se])
          clear se
          by_cases g0 : l k = 0
          · have kz : (l k == 0) = true := by simp [g0]
            go_wp2
            go_ret2
            exact ⟨.slice none 0 0, by rw [HE.out, ES.out]; rfl, by rw [HN.out, ES.out]; exact .inl ⟨rfl, rfl⟩, HB.out⟩
          · have kz : (l k == 0) = false := by simp [g0]
            have gl : ¬ (-127 ≤ l k ∧ l k ≤ 127) := by
              rcases g1 with g1 | g1
              · exact absurd g1 g0
              · simpa [lvl] using g1
            by_cases g3 : l k < -127
            · have d1 : decide (l k < -127) = true := by simp; omega
              go_wp2
              go_ret2
              exact ⟨.slice none 0 0, by rw [HE.out, ES.out]; rfl, by rw [HN.out, ES.out]; exact .inl ⟨rfl, rfl⟩, HB.out⟩
            · have d1 : decide (l k < -127) = false := by simp; omega
              have d2 : decide (127 < l k) = true := by simp; omega
              go_wp2
              go_ret2
              exact ⟨.slice none 0 0, by rw [HE.out, ES.out]; rfl, by rw [HN.out, ES.out]; exact .inl ⟨rfl, rfl⟩, HB.out⟩
        · rw [if_neg g1] at se
          have g0 : l k ≠ 0 := fun e => g1 (.inl e)
          have gl : -127 ≤ l k ∧ l k ≤ 127 := by
            by_cases e : -127 ≤ l k ∧ l k ≤ 127
            · exact e
            · exact absurd (.inr (by unfold lvl; simpa using e)) g1
          have kz : (l k == 0) = false := by simp [g0]
          have d3 : decide (l k < -127) = false := by simp; omega
          have d4 : decide (127 < l k) = false := by simp; omega
          clear g1
          by_cases g2 : r k < 0 ∨ 63 - A < r k
          · rw [if_pos g2] at se
            have ES : Hid (spE 1 r l n = 11) := Lib.hid (by rw [spE_stay (by rw [se]; simp) n (by omega), se])
            clear se
            by_cases g3 : r k < 0
            · have d1 : decide (r k < 0) = true := by simp [g3]
              go_wp2
              go_ret2
              exact ⟨.slice none 0 0, by rw [HE.out, ES.out]; rfl, by rw [HN.out, ES.out]; exact .inl ⟨rfl, rfl⟩, HB.out⟩
            · have d1 : decide (r k < 0) = false := by simp; omega
              have d2 : decide (63 - A < r k) = true := by simp; omega
              go_wp2
              go_ret2
              exact ⟨.slice none 0 0, by rw [HE.out, ES.out]; rfl, by rw [HN.out, ES.out]; exact .inl ⟨rfl, rfl⟩, HB.out⟩
          · rw [if_neg g2] at se
            have SE := Lib.hid se
            have d1 : decide (r k < 0) = false := by simp; omega
            have d2 : decide (63 - A < r k) = false := by simp; omega
            obtain ⟨q, hq⟩ : ∃ q : Nat, A + r k = (q : Int) := ⟨(A + r k).toNat, by omega⟩
            have q64 : q < 64 := by omega
            have qb : (0 : Int) ≤ (q : Int) ∧ (q : Int) < 64 := by omega
            obtain ⟨p, hp⟩ : ∃ p, p = at' q := ⟨_, rfl⟩
            have p64 : p < 64 := by rw [hp]; exact at_lt0 q q64
            have pb : (0 : Int) ≤ (p : Int) ∧ (p : Int) < 64 := by omega
            have PE : plF q = (p : Int) := by rw [hp]; rfl
            have FE := Lib.hid (sf.out p (by rw [hq, hp]; rfl))
            have cP := (HP.out q q64).1
            rw [PE] at cP
            have cA := HA.out p p64
            have x1 : IntKind.i64.wrap (A + r k) = A + r k := IntWalk.i64_in _ (by omega)
            clear se g2 hp PE sf
            go_wp2_with fail
            go_region
            go_wp2
            go_roundw
            case rel =>
              refine ⟨k + 1, by omega, by rw [sa.out, hq], by go_num, SE.out, ?_, ?_, ?_⟩
              · rw [FE.out]
                exact (HA.out.set p (l k)).drew
              · exact (HP.out.far (a := ⟨go, p, none⟩) hne _).drew
              · exact (HB.out.setCell (p := ⟨go, p, none⟩) p1 _).drew
            case measure => simp [intOf]; omega
      · have hE' : spE 1 r l n = 0 := by
          obtain rfl : k = n := by omega
          exact hE
        have hA' : Arr wr .i64 go 64 (spF 1 r l n) := by
          obtain rfl : k = n := by omega
          exact hA
        have HE2 : Hid (sE 1 n r l = 0) := Lib.hid (by rw [HE.out, hE'])
        have HN2 : Hid (sN 1 n r l = 64) := Lib.hid (by rw [HN.out, if_pos hE'])
        have HA := Lib.hid hA'
        have HB := Lib.hid hB
        have hk' : n ≤ k := by omega
        clear hA hP hB hE hE' hA' RD
        go_wp2
        go_ret2
        exact ⟨_, by rw [HE2.out]; rfl, by rw [HN2.out]; exact .inr ⟨go, 64, rfl, p1, HA.out.lt (by omega), Nat.le_refl _, by decide, HA.out⟩, HB.out⟩
theorem rSpread_any (v : Value) (first : Int) (n : Nat) (r l : Nat → Int) (w : World) (hs : Pl w v n r l) (hn : n ≤ 1000) :
    Calls Tryz.prog 146 #[v, .int .i64 first] w (Spreads w first n r l) := by
  by_cases hf : first = 0 ∨ first = 1
  · have hs' := hs
    obtain ⟨a, c, hv, _⟩ := hs'
    rcases hf with rfl | rfl
    · exact rspread_in0 v a n c hv r l w hs hn
    · exact rspread_in1 v a n c hv r l w hs hn
  · exact rspread_first v first n r l w hf
end Sc
end Go.Proofs.YtbmglemjfodfhaaGreat
