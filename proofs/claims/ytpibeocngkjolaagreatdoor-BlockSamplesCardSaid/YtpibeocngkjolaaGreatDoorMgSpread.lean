/- A place of the order: scan's and the document's. | scan.Spread. -/
import Derived.Test.YtpibeocngkjolaaGreatDoorMgRunsP
import Derived.BigRegion
set_option linter.unusedVariables false
set_option linter.unusedSimpArgs false

namespace Go.Proofs.YtpibeocngkjolaaGreatDoor
open Go.RowKit
namespace Sc

def pE (i : Int) : Int := if i < 0 ∨ 63 < i then 3 else 0
def pV (i : Int) : Int := if i < 0 ∨ 63 < i then 0 else plF i.toNat
theorem rorder_any (w : World) : Calls Tryz.prog 77 #[] w fun e w' => e = .returned (.slice (some ⟨w.heap.size, 0, none⟩) 64 64) ∧ w' = w.alloc (.cells (rowOf .i64 64 plF) 3) := by
  have HZ := lits64
  go_enter Tryz.func77, Tryz.ntmps77
  go_wp2
  go_ret
  exact ⟨rfl, rfl⟩
theorem pl_new (w : World) (t : TypeId) : Arr (w.alloc (.cells (rowOf .i64 64 plF) t)) .i64 w.heap.size 64 plF := Arr.new w .i64 _ t 64 _ (fun i hi => rowOf_get _ _ _ _ hi)
end Sc
end Go.Proofs.YtpibeocngkjolaaGreatDoor

namespace Go.Proofs.YtpibeocngkjolaaGreatDoor
open Go.RowKit
namespace Sc

theorem level_any (x : Int) (w : World) : Calls Tryz.prog 76 #[.int .i64 x] w fun e w' => e = .returned (.bool (lvl x)) ∧ w = w' := by
  by_cases h1 : -127 ≤ x
  · by_cases h2 : x ≤ 127
    · have E : Hid (lvl x = true) := Lib.hid (by unfold lvl; simp; omega)
      go_enter Tryz.func76, Tryz.ntmps76
      go_wp2
      go_ret
      exact ⟨by rw [E.out]; rfl, rfl⟩
    · have E : Hid (lvl x = false) := Lib.hid (by unfold lvl; simp; omega)
      go_enter Tryz.func76, Tryz.ntmps76
      go_wp2
      go_ret
      exact ⟨by rw [E.out]; rfl, rfl⟩
  · have E : Hid (lvl x = false) := Lib.hid (by unfold lvl; simp; omega)
    go_enter Tryz.func76, Tryz.ntmps76
    go_wp2
    go_ret
    exact ⟨by rw [E.out]; rfl, rfl⟩

theorem spread_first (v : Value) (first : Int) (n : Nat) (r l : Nat → Int) (w : World) (hf : ¬ (first = 0 ∨ first = 1)) :
    Calls Tryz.prog 49 #[v, .int .i64 first] w (Spreads w first n r l) := by
  have E1 : Hid (sE first n r l = 3) := Lib.hid (by unfold sE; rw [if_neg hf])
  have E2 : Hid (sN first n r l = 0) := Lib.hid (by unfold sN; rw [E1.out]; rfl)
  have k0 : (first == 0) = false := by simp; omega
  have k1 : (first == 1) = false := by simp; omega
  have k2 : (first != 0) = true := by simp; omega
  have k3 : (first != 1) = true := by simp; omega
  clear hf
  go_enter Tryz.func49, Tryz.ntmps49
  go_wp2
  go_ret2
  exact ⟨.slice none 0 0, by rw [E1.out]; rfl, by rw [E2.out]; exact .inl ⟨rfl, rfl⟩, Below.refl _ _⟩

set_option maxRecDepth 100000 in
set_option maxHeartbeats 4000000 in
theorem spread_in0 (v : Value) (a : Option Addr) (n c : Nat) (hv : v = .slice a n c) (r l : Nat → Int) (w : World) (hs : Pl w v n r l) (hn : n ≤ 1000) :
    Calls Tryz.prog 49 #[v, .int .i64 0] w (Spreads w 0 n r l) := by
  subst hv
  have RD : Hid (∀ i, i < n → ∃ b o, a = some ⟨b, o, none⟩ ∧ b < w.heap.size ∧ Pairs w b o n r l) := Lib.hid (by
    obtain ⟨a', c', he, _, _, h3⟩ := hs
    cases he
    intro i hi
    rcases h3 with ⟨h0, _⟩ | ⟨b, o, rfl, hb, hI⟩
    · omega
    · exact ⟨b, o, rfl, hb, hI⟩)
  have HE : Hid (sE 0 n r l = spE 0 r l n) := Lib.hid (by unfold sE; rw [if_pos (by decide)])
  have HN : Hid (sN 0 n r l = if spE 0 r l n = 0 then 64 else 0) := Lib.hid (by unfold sN; rw [HE.out])
  have HZ := zeros64
  have M0 := Lib.hid (Arr.new w .i64 (rowOf .i64 64 (fun _ => 0)) 106 64 (fun _ => 0) (fun i hi => rowOf_get _ _ _ _ hi))
  have B0 := Lib.hid ((Below.refl w.heap.size w).alloc (Nat.le_refl _) (.cells (rowOf .i64 64 (fun _ => 0)) 106))
  clear hs
  have main : Calls Tryz.prog 49 #[.slice a n c, .int .i64 0] w (Spreads w 0 n r l) := by
    go_enter Tryz.func49, Tryz.ntmps49
    go_wp2_with (first
      | (go_at_call 75; refine (places_any _).mono ?_; rintro e w1 ⟨rfl, b1⟩; have z0 := B0.out.size; have HB := Lib.hid (chain B0.out b1); have HA := Lib.hid (M0.out.below b1 (M0.out.lt (by omega))); have z1 := HB.out.size; have M1 := Lib.hid (Arr.new w1 .i64 (rowOf .i64 64 (fun _ => 0)) 106 64 (fun _ => 0) (fun i hi => rowOf_get _ _ _ _ hi)); have lw : w.heap.size < w1.heap.size := HA.out.lt (by omega); clear b1)
      | (refine wpList_store_arr rfl 106 (.tmp 8) (.tmp 18) rfl rfl rfl M1.out (by kernel_rfl) ?_; intro w2 HP2 HG2; have HB := Lib.hid ((HB.out.alloc z1 _).grown HG2.out (by simp; omega) (fun g hg => by cases hg; exact z1)); have HA := Lib.hid ((HA.out.alloc _).grown HG2.out (fun e => by have := Option.some.inj e; omega))))
    have l2 : w1.heap.size < w2.heap.size := HP2.out.lt (by omega)
    clear HZ
    go_loopw [7, 21] (fun at_ i wr => ∃ k : Nat, k ≤ n ∧ at_ = .int .i64 (spA 0 r k) ∧ i = .int .i64 k ∧ spE 0 r l k = 0 ∧ Arr wr .i64 w.heap.size 64 (spF 0 r l k) ∧ Arr wr .i64 w1.heap.size 64 plF ∧ Below w.heap.size w wr) (fun _ i _ => n - (intOf i).toNat)
    case atStart => exact ⟨0, by omega, rfl, rfl, rfl, HA.out, HP2.out, HB.out⟩
    case round =>
      obtain ⟨k, hk, rfl, rfl, hE, hA, hP, hB⟩ := hrel
      by_cases hkn : k < n
      · obtain ⟨b, o, rfl, hb, hI⟩ := RD.out k hkn
        obtain ⟨c1, c2⟩ := (hI.below hB hb) k hkn
        have kb : (0 : Int) ≤ (k : Int) ∧ (k : Int) < (n : Int) := by omega
        have ab := spA_bd (by decide) k hE
        have se := spE_succ 0 r l k
        rw [if_neg (by rw [hE]; simp)] at se
        obtain ⟨A, hAA⟩ : ∃ A, A = spA 0 r k := ⟨_, rfl⟩
        have sa : Hid (spA 0 r (k + 1) = A + r k + 1) := Lib.hid (by rw [hAA]; rfl)
        have sf : Hid (∀ p, p = at' (A + r k).toNat → spF 0 r l (k + 1) = fun i => if i = p then l k else spF 0 r l k i) := Lib.hid (by rw [hAA]; rintro p rfl; rfl)
        rw [← hAA] at ab se ⊢
        have HA := Lib.hid hA
        have HP := Lib.hid hP
        have HB := Lib.hid hB
        clear hA hP hB hI hE hAA
        by_cases g1 : l k = 0 ∨ lvl (l k) = false
        · rw [if_pos g1] at se
          have ES : Hid (spE 0 r l n = 10) := Lib.hid (by rw [spE_stay (by rw [se]; simp) n (by omega), se])
          clear se
          rcases g1 with g1 | g1
          · have kz : (l k == 0) = true := by simp [g1]
            go_wp2
            go_ret2
            exact ⟨.slice none 0 0, by rw [HE.out, ES.out]; rfl, by rw [HN.out, ES.out]; exact .inl ⟨rfl, rfl⟩, HB.out.alloc HB.out.size _⟩
          · by_cases g0 : l k = 0
            · have kz : (l k == 0) = true := by simp [g0]
              go_wp2
              go_ret2
              exact ⟨.slice none 0 0, by rw [HE.out, ES.out]; rfl, by rw [HN.out, ES.out]; exact .inl ⟨rfl, rfl⟩, HB.out.alloc HB.out.size _⟩
            · have kz : (l k == 0) = false := by simp [g0]
              go_wp2_with (go_at_call 76; refine (level_any _ _).mono ?_; rintro e w3 ⟨rfl, rfl⟩; rw [g1])
              go_ret2
              exact ⟨.slice none 0 0, by rw [HE.out, ES.out]; rfl, by rw [HN.out, ES.out]; exact .inl ⟨rfl, rfl⟩, HB.out.alloc HB.out.size _⟩
        · rw [if_neg g1] at se
          have g0 : l k ≠ 0 := fun e => g1 (.inl e)
          have gl : lvl (l k) = true := by
            cases e : lvl (l k)
            · exact absurd (.inr e) g1
            · rfl
          have kz : (l k == 0) = false := by simp [g0]
          clear g1
          by_cases g2 : r k < 0 ∨ 63 - A < r k
          · rw [if_pos g2] at se
            have ES : Hid (spE 0 r l n = 11) := Lib.hid (by rw [spE_stay (by rw [se]; simp) n (by omega), se])
            clear se
            by_cases g3 : r k < 0
            · have d1 : decide (r k < 0) = true := by simp [g3]
              go_wp2_with (go_at_call 76; refine (level_any _ _).mono ?_; rintro e w3 ⟨rfl, rfl⟩; rw [gl])
              go_ret2
              exact ⟨.slice none 0 0, by rw [HE.out, ES.out]; rfl, by rw [HN.out, ES.out]; exact .inl ⟨rfl, rfl⟩, HB.out.alloc HB.out.size _⟩
            · have d1 : decide (r k < 0) = false := by simp; omega
              have d2 : decide (63 - A < r k) = true := by simp; omega
              go_wp2_with (go_at_call 76; refine (level_any _ _).mono ?_; rintro e w3 ⟨rfl, rfl⟩; rw [gl])
              go_ret2
              exact ⟨.slice none 0 0, by rw [HE.out, ES.out]; rfl, by rw [HN.out, ES.out]; exact .inl ⟨rfl, rfl⟩, HB.out.alloc HB.out.size _⟩
          · rw [if_neg g2] at se
            have SE := Lib.hid se
            have d1 : decide (r k < 0) = false := by simp; omega
            have d2 : decide (63 - A < r k) = false := by simp; omega
            obtain ⟨q, hq⟩ : ∃ q : Nat, A + r k = (q : Int) := ⟨(A + r k).toNat, by omega⟩
            have q64 : q < 64 := by omega
            have qb : (0 : Int) ≤ (q : Int) ∧ (q : Int) < 64 := by omega
            obtain ⟨p, hp⟩ : ∃ p, p = at' q := ⟨_, rfl⟩
            have p64 : p < 64 := by rw [hp]; exact at_lt0 q q64
            have pb : (0 : Int) ≤ (p : Int) ∧ (p : Int) < 64 := by omega
            have PE : plF q = (p : Int) := by rw [hp]; rfl
            have FE := Lib.hid (sf.out p (by rw [hq, hp]; rfl))
            have cP := ((HP.out.alloc (.cells #[.int .i64 (r k), .int .i64 (l k)] 69)) q q64).1
            rw [PE] at cP
            have cA := (HA.out.alloc (.cells #[.int .i64 (r k), .int .i64 (l k)] 69)) p p64
            have x1 : IntKind.i64.wrap (A + r k) = A + r k := IntWalk.i64_in _ (by omega)
            have lb := HA.out.lt (by omega)
            have lp := HP.out.lt (by omega)
            clear se g2 hp PE sf
            go_wp2_with (go_at_call 76; refine (level_any _ _).mono ?_; rintro e w3 ⟨rfl, rfl⟩; rw [gl])
            go_region
            go_wp2
            go_roundw
            case rel =>
              refine ⟨k + 1, by omega, by rw [sa.out, hq], by go_num, SE.out, ?_, ?_, ?_⟩
              · rw [FE.out]
                exact ((HA.out.set p (l k)).alloc _).drew
              · exact ((HP.out.far (a := ⟨w.heap.size, p, none⟩) (show w.heap.size ≠ w1.heap.size by omega) _).alloc _).drew
              · exact (((HB.out.setCell (p := ⟨w.heap.size, p, none⟩) (Nat.le_refl _) _)).alloc (HB.out.setCell (p := ⟨w.heap.size, p, none⟩) (Nat.le_refl _) _).size _).drew
            case measure => simp [intOf]; omega
      · have hE' : spE 0 r l n = 0 := by
          obtain rfl : k = n := by omega
          exact hE
        have hA' : Arr wr .i64 w.heap.size 64 (spF 0 r l n) := by
          obtain rfl : k = n := by omega
          exact hA
        have HE2 : Hid (sE 0 n r l = 0) := Lib.hid (by rw [HE.out, hE'])
        have HN2 : Hid (sN 0 n r l = 64) := Lib.hid (by rw [HN.out, if_pos hE'])
        have HA := Lib.hid hA'
        have HB := Lib.hid hB
        have hk' : n ≤ k := by omega
        clear hA hP hB hE hE' hA' RD
        go_wp2
        go_ret2
        exact ⟨_, by rw [HE2.out]; rfl, by rw [HN2.out]; exact .inr ⟨w.heap.size, 64, rfl, Nat.le_refl _, HA.out.lt (by omega), Nat.le_refl _, by decide, HA.out⟩, HB.out⟩
  exact main
set_option maxRecDepth 100000 in
set_option maxHeartbeats 4000000 in
theorem spread_in1 (v : Value) (a : Option Addr) (n c : Nat) (hv : v = .slice a n c) (r l : Nat → Int) (w : World) (hs : Pl w v n r l) (hn : n ≤ 1000) :
    Calls Tryz.prog 49 #[v, .int .i64 1] w (Spreads w 1 n r l) := by
  subst hv
  have RD : Hid (∀ i, i < n → ∃ b o, a = some ⟨b, o, none⟩ ∧ b < w.heap.size ∧ Pairs w b o n r l) := Lib.hid (by
    obtain ⟨a', c', he, _, _, h3⟩ := hs
    cases he
    intro i hi
    rcases h3 with ⟨h0, _⟩ | ⟨b, o, rfl, hb, hI⟩
    · omega
    · exact ⟨b, o, rfl, hb, hI⟩)
  have HE : Hid (sE 1 n r l = spE 1 r l n) := Lib.hid (by unfold sE; rw [if_pos (by decide)])
  have HN : Hid (sN 1 n r l = if spE 1 r l n = 0 then 64 else 0) := Lib.hid (by unfold sN; rw [HE.out])
  have HZ := zeros64
  have M0 := Lib.hid (Arr.new w .i64 (rowOf .i64 64 (fun _ => 0)) 106 64 (fun _ => 0) (fun i hi => rowOf_get _ _ _ _ hi))
  have B0 := Lib.hid ((Below.refl w.heap.size w).alloc (Nat.le_refl _) (.cells (rowOf .i64 64 (fun _ => 0)) 106))
  clear hs
  have main : Calls Tryz.prog 49 #[.slice a n c, .int .i64 1] w (Spreads w 1 n r l) := by
    go_enter Tryz.func49, Tryz.ntmps49
    go_wp2_with (first
      | (go_at_call 75; refine (places_any _).mono ?_; rintro e w1 ⟨rfl, b1⟩; have z0 := B0.out.size; have HB := Lib.hid (chain B0.out b1); have HA := Lib.hid (M0.out.below b1 (M0.out.lt (by omega))); have z1 := HB.out.size; have M1 := Lib.hid (Arr.new w1 .i64 (rowOf .i64 64 (fun _ => 0)) 106 64 (fun _ => 0) (fun i hi => rowOf_get _ _ _ _ hi)); have lw : w.heap.size < w1.heap.size := HA.out.lt (by omega); clear b1)
      | (refine wpList_store_arr rfl 106 (.tmp 8) (.tmp 18) rfl rfl rfl M1.out (by kernel_rfl) ?_; intro w2 HP2 HG2; have HB := Lib.hid ((HB.out.alloc z1 _).grown HG2.out (by simp; omega) (fun g hg => by cases hg; exact z1)); have HA := Lib.hid ((HA.out.alloc _).grown HG2.out (fun e => by have := Option.some.inj e; omega))))
    have l2 : w1.heap.size < w2.heap.size := HP2.out.lt (by omega)
    clear HZ
    go_loopw [7, 21] (fun at_ i wr => ∃ k : Nat, k ≤ n ∧ at_ = .int .i64 (spA 1 r k) ∧ i = .int .i64 k ∧ spE 1 r l k = 0 ∧ Arr wr .i64 w.heap.size 64 (spF 1 r l k) ∧ Arr wr .i64 w1.heap.size 64 plF ∧ Below w.heap.size w wr) (fun _ i _ => n - (intOf i).toNat)
    case atStart => exact ⟨0, by omega, rfl, rfl, rfl, HA.out, HP2.out, HB.out⟩
    case round =>
      obtain ⟨k, hk, rfl, rfl, hE, hA, hP, hB⟩ := hrel
      by_cases hkn : k < n
      · obtain ⟨b, o, rfl, hb, hI⟩ := RD.out k hkn
        obtain ⟨c1, c2⟩ := (hI.below hB hb) k hkn
        have kb : (0 : Int) ≤ (k : Int) ∧ (k : Int) < (n : Int) := by omega
        have ab := spA_bd (by decide) k hE
        have se := spE_succ 1 r l k
        rw [if_neg (by rw [hE]; simp)] at se
        obtain ⟨A, hAA⟩ : ∃ A, A = spA 1 r k := ⟨_, rfl⟩
        have sa : Hid (spA 1 r (k + 1) = A + r k + 1) := Lib.hid (by rw [hAA]; rfl)
        have sf : Hid (∀ p, p = at' (A + r k).toNat → spF 1 r l (k + 1) = fun i => if i = p then l k else spF 1 r l k i) := Lib.hid (by rw [hAA]; rintro p rfl; rfl)
        rw [← hAA] at ab se ⊢
        have HA := Lib.hid hA
        have HP := Lib.hid hP
        have HB := Lib.hid hB
        clear hA hP hB hI hE hAA
        by_cases g1 : l k = 0 ∨ lvl (l k) = false
        · rw [if_pos g1] at se
          have ES : Hid (spE 1 r l n = 10) := Lib.hid (by rw [spE_stay (by rw [se]; simp) n (by omega), se])
          clear se
          rcases g1 with g1 | g1
          · have kz : (l k == 0) = true := by simp [g1]
            go_wp2
            go_ret2
            exact ⟨.slice none 0 0, by rw [HE.out, ES.out]; rfl, by rw [HN.out, ES.out]; exact .inl ⟨rfl, rfl⟩, HB.out.alloc HB.out.size _⟩
          · by_cases g0 : l k = 0
            · have kz : (l k == 0) = true := by simp [g0]
              go_wp2
              go_ret2
              exact ⟨.slice none 0 0, by rw [HE.out, ES.out]; rfl, by rw [HN.out, ES.out]; exact .inl ⟨rfl, rfl⟩, HB.out.alloc HB.out.size _⟩
            · have kz : (l k == 0) = false := by simp [g0]
              go_wp2_with (go_at_call 76; refine (level_any _ _).mono ?_; rintro e w3 ⟨rfl, rfl⟩; rw [g1])
              go_ret2
              exact ⟨.slice none 0 0, by rw [HE.out, ES.out]; rfl, by rw [HN.out, ES.out]; exact .inl ⟨rfl, rfl⟩, HB.out.alloc HB.out.size _⟩
        · rw [if_neg g1] at se
          have g0 : l k ≠ 0 := fun e => g1 (.inl e)
          have gl : lvl (l k) = true := by
            cases e : lvl (l k)
            · exact absurd (.inr e) g1
            · rfl
          have kz : (l k == 0) = false := by simp [g0]
          clear g1
          by_cases g2 : r k < 0 ∨ 63 - A < r k
          · rw [if_pos g2] at se
            have ES : Hid (spE 1 r l n = 11) := Lib.hid (by rw [spE_stay (by rw [se]; simp) n (by omega), se])
            clear se
            by_cases g3 : r k < 0
            · have d1 : decide (r k < 0) = true := by simp [g3]
              go_wp2_with (go_at_call 76; refine (level_any _ _).mono ?_; rintro e w3 ⟨rfl, rfl⟩; rw [gl])
              go_ret2
              exact ⟨.slice none 0 0, by rw [HE.out, ES.out]; rfl, by rw [HN.out, ES.out]; exact .inl ⟨rfl, rfl⟩, HB.out.alloc HB.out.size _⟩
            · have d1 : decide (r k < 0) = false := by simp; omega
              have d2 : decide (63 - A < r k) = true := by simp; omega
              go_wp2_with (go_at_call 76; refine (level_any _ _).mono ?_; rintro e w3 ⟨rfl, rfl⟩; rw [gl])
              go_ret2
              exact ⟨.slice none 0 0, by rw [HE.out, ES.out]; rfl, by rw [HN.out, ES.out]; exact .inl ⟨rfl, rfl⟩, HB.out.alloc HB.out.size _⟩
          · rw [if_neg g2] at se
            have SE := Lib.hid se
            have d1 : decide (r k < 0) = false := by simp; omega
            have d2 : decide (63 - A < r k) = false := by simp; omega
            obtain ⟨q, hq⟩ : ∃ q : Nat, A + r k = (q : Int) := ⟨(A + r k).toNat, by omega⟩
            have q64 : q < 64 := by omega
            have qb : (0 : Int) ≤ (q : Int) ∧ (q : Int) < 64 := by omega
            obtain ⟨p, hp⟩ : ∃ p, p = at' q := ⟨_, rfl⟩
            have p64 : p < 64 := by rw [hp]; exact at_lt0 q q64
            have pb : (0 : Int) ≤ (p : Int) ∧ (p : Int) < 64 := by omega
            have PE : plF q = (p : Int) := by rw [hp]; rfl
            have FE := Lib.hid (sf.out p (by rw [hq, hp]; rfl))
            have cP := ((HP.out.alloc (.cells #[.int .i64 (r k), .int .i64 (l k)] 69)) q q64).1
            rw [PE] at cP
            have cA := (HA.out.alloc (.cells #[.int .i64 (r k), .int .i64 (l k)] 69)) p p64
            have x1 : IntKind.i64.wrap (A + r k) = A + r k := IntWalk.i64_in _ (by omega)
            have lb := HA.out.lt (by omega)
            have lp := HP.out.lt (by omega)
            clear se g2 hp PE sf
            go_wp2_with (go_at_call 76; refine (level_any _ _).mono ?_; rintro e w3 ⟨rfl, rfl⟩; rw [gl])
            go_region
            go_wp2
            go_roundw
            case rel =>
              refine ⟨k + 1, by omega, by rw [sa.out, hq], by go_num, SE.out, ?_, ?_, ?_⟩
              · rw [FE.out]
                exact ((HA.out.set p (l k)).alloc _).drew
              · exact ((HP.out.far (a := ⟨w.heap.size, p, none⟩) (show w.heap.size ≠ w1.heap.size by omega) _).alloc _).drew
              · exact (((HB.out.setCell (p := ⟨w.heap.size, p, none⟩) (Nat.le_refl _) _)).alloc (HB.out.setCell (p := ⟨w.heap.size, p, none⟩) (Nat.le_refl _) _).size _).drew
            case measure => simp [intOf]; omega
      · have hE' : spE 1 r l n = 0 := by
          obtain rfl : k = n := by omega
          exact hE
        have hA' : Arr wr .i64 w.heap.size 64 (spF 1 r l n) := by
          obtain rfl : k = n := by omega
          exact hA
        have HE2 : Hid (sE 1 n r l = 0) := Lib.hid (by rw [HE.out, hE'])
        have HN2 : Hid (sN 1 n r l = 64) := Lib.hid (by rw [HN.out, if_pos hE'])
        have HA := Lib.hid hA'
        have HB := Lib.hid hB
        have hk' : n ≤ k := by omega
        clear hA hP hB hE hE' hA' RD
        go_wp2
        go_ret2
        exact ⟨_, by rw [HE2.out]; rfl, by rw [HN2.out]; exact .inr ⟨w.heap.size, 64, rfl, Nat.le_refl _, HA.out.lt (by omega), Nat.le_refl _, by decide, HA.out⟩, HB.out⟩
  exact main
theorem Spread_any (v : Value) (first : Int) (n : Nat) (r l : Nat → Int) (w : World) (hs : Pl w v n r l) (hn : n ≤ 1000) :
    Calls Tryz.prog 49 #[v, .int .i64 first] w (Spreads w first n r l) := by
  by_cases hf : first = 0 ∨ first = 1
  · have hs' := hs
    obtain ⟨a, c, hv, _⟩ := hs'
    rcases hf with rfl | rfl
    · exact spread_in0 v a n c hv r l w hs hn
    · exact spread_in1 v a n c hv r l w hs hn
  · exact spread_first v first n r l w hf
end Sc
end Go.Proofs.YtpibeocngkjolaaGreatDoor
