/- law12: block.Get, whole; gets, puts, bits. | law12: over, flat. -/
import Derived.Test.YtpibeocngkjolaaGreatDoorMgDpR
import Derived.Test.YtpibeocngkjolaaGreatDoorMgDpV
import Derived.Test.YtpibeocngkjolaaGreatDoorMgDpZ
set_option linter.unusedVariables false
set_option linter.unusedSimpArgs false

namespace Go.Proofs.YtpibeocngkjolaaGreatDoor
open Go.RowKit Go.Shelf
set_option linter.unusedSimpArgs false
set_option linter.unusedVariables false
namespace Dk
open Cf Bk Sc
theorem Get12_any (v : Value) (N : Nat) (F : Nat → Int) (p : Int) (intra : Bool) (w : World) (hN : N ≤ 1000000) (hs : Sl .u8 w v N F) (hb : ∀ j, j < N → 0 ≤ F j ∧ F j ≤ 255) (hT : Tabs w) :
    Calls Tryz.prog 12 #[v, .int .i64 p, .bool intra] w (GotB F N p intra w) := by
  by_cases h0 : p < 0
  · exact Get12_low v N F p intra w h0
  have hs2 := hs
  obtain ⟨a, c, rfl, _⟩ := hs2
  by_cases h1 : 8 * (N : Int) < p
  · exact Get12_high a c N F p intra w hN (by omega) h1
  cases intra
  · exact Get12_inter a c N F p w hN hs hb hT (by omega) (by omega)
  · exact Get12_intra a c N F p w hN hs hb hT (by omega) (by omega)
section
set_option maxRecDepth 100000
set_option maxHeartbeats 4000000
theorem gets_any (intra : Bool) (dc : Int) (q : Option Addr) (n c : Nat) (r l : Nat → Int) (b E : Int) (v : Value) (N : Nat) (F : Nat → Int) (w : World) (hn : n ≤ 1000) (hN : N ≤ 1000000) (hp : Pl w (.slice q n c) n r l) (hs : Sl .u8 w v N F) (hb : ∀ j, j < N → 0 ≤ F j ∧ F j ≤ 255) (hT : Tabs w)
    (h : GB F N 0 intra E dc n b) (he : ∀ j, j < n → (gg F N (!intra) (hP 0 intra) j).r = r j ∧ (gg F N (!intra) (hP 0 intra) j).l = l j) :
    Calls Tryz.prog 30 #[.bool intra, bv dc q n c, .int .i64 b, .int .i64 E, v] w fun e w' => e = .returned (.bool true) ∧ Below w.heap.size w w' := by
  have B0 := (Below.refl w.heap.size w).alloc (Nat.le_refl _) (.cells #[.int .i64 dc, .slice q n c] 27)
  have HB0 := Lib.hid B0
  have A0 := Lib.hid (At.new w #[.int .i64 dc, .slice q n c] 27)
  have HG := Lib.hid (Get12_any v N F 0 intra _ hN (hs.below B0) hb (hT.below B0))
  have HP := Lib.hid (hp.below B0)
  have HU := Lib.hid (fun E' dc' n' b' (k : GB F N 0 intra E' dc' n' b') => h.uniq k)
  have HE := Lib.hid he
  clear B0 hp hs hb hT h he
  go_enter Tryz.func30, Tryz.ntmps30
  go_wp2_with (first
    | (go_at_call 12; refine HG.out.mono ?_; rintro e w1 ⟨E', dc', b', n', q', c', hgb, rfl, hown, hbel⟩; obtain ⟨rfl, rfl, rfl, rfl⟩ := HU.out _ _ _ _ hgb; have HO := Lib.hid hown.pl; have HB1 := Lib.hid (chain HB0.out hbel); have A1 := Lib.hid ((A0.out.below hbel).below ((Below.refl _ w1).alloc (Nat.le_refl _) (.cells #[.int .i64 dc, .slice q' n c'] 27))); have A2 := Lib.hid (At.new w1 #[.int .i64 dc, .slice q' n c'] 27); have P1 := Lib.hid ((HP.out.below hbel).below ((Below.refl _ w1).alloc (Nat.le_refl _) (.cells #[.int .i64 dc, .slice q' n c'] 27))); have P2 := Lib.hid (HO.out.below ((Below.refl _ w1).alloc (Nat.le_refl _) (.cells #[.int .i64 dc, .slice q' n c'] 27))); clear hgb hown hbel HO; have a0 := A1.out.cell 0 _ rfl; have a1 := A1.out.cell 1 _ rfl; have z1 := HB1.out.size)
    | (go_at_call 14; refine (SameBlock_eq _ _ _ _ _ _ _ _ _ _ _ (by omega) P2.out P1.out (fun i hi => ⟨(HE.out i hi).1.symm, (HE.out i hi).2.symm⟩)).mono ?_; rintro e w2 ⟨rfl, hbel⟩; have HB2 := Lib.hid (chain (HB1.out.alloc z1 _) hbel); clear hbel))
  go_ret
  exact ⟨rfl, HB2.out⟩
theorem puts_any (dc : Int) (q : Option Addr) (n c : Nat) (r l : Nat → Int) (i : Bool) (E : Int) (s : ByteArray) (w : World) (hn : n ≤ 1000) (hp : Pl w (.slice q n c) n r l) (hT : Tabs w) (hE : bE dc n r l i = E) (hs : (if bE dc n r l i = 0 then sv (cs (ptB dc n r l i)) else sv []) = .string s) :
    Calls Tryz.prog 28 #[bv dc q n c, .bool i, .string s, .int .i64 E] w fun e w' => e = .returned (.bool true) ∧ Below w.heap.size w w' := by
  have B0 := (Below.refl w.heap.size w).alloc (Nat.le_refl _) (.cells #[.int .i64 dc, .slice q n c] 27)
  have HB0 := Lib.hid B0
  have HP := Lib.hid (Put_any2 dc q n c r l i hn _ (hp.below B0) (hT.below B0))
  rw [hs, hE] at HP
  clear B0 hp hT hE hs
  go_enter Tryz.func28, Tryz.ntmps28
  go_wp2_with (go_at_call 18; refine HP.out.mono ?_; rintro e w1 ⟨rfl, hb⟩; have HB1 := Lib.hid (chain HB0.out hb); clear hb)
  go_ret
  exact ⟨rfl, HB1.out⟩
theorem bits_any (L : List Bool) (w : World) (hL : L.length ≤ 100000) : Calls Tryz.prog 32 #[sv (cs L)] w fun e w' => e = .returned (.bool true) ∧ w = w' := by
  have hx := ba_size (cs L)
  rw [cs_len] at hx
  have hel : ∀ (j : Nat) (h : j < (⟨(cs L).toArray⟩ : ByteArray).size), (⟨(cs L).toArray⟩ : ByteArray)[j]'h = bch (L.getD j false) := by
    intro j h
    have h2 : j < (cs L).length := h
    have h3 : j < L.length := by rw [cs_len] at h2; exact h2
    show (cs L)[j]'h2 = _
    simp only [cs, List.getElem_map]
    rw [List.getD_eq_getElem?_getD, List.getElem?_eq_getElem h3]
    rfl
  have HEL := Lib.hid hel
  unfold sv
  obtain ⟨N, hN⟩ : ∃ N, L.length = N := ⟨_, rfl⟩
  rw [hN] at hL hx
  obtain ⟨sx, hsx⟩ : ∃ s : ByteArray, (⟨(cs L).toArray⟩ : ByteArray) = s := ⟨_, rfl⟩
  rw [hsx] at hx HEL ⊢
  clear hsx hN hel
  go_enter Tryz.func32, Tryz.ntmps32
  go_wp2_with fail
  go_loopw [3] (fun i wr => ∃ k : Nat, k ≤ N ∧ i = .int .i64 k ∧ w = wr) (fun i _ => N - (intOf i).toNat)
  case atStart => exact ⟨0, by omega, rfl, rfl⟩
  case round =>
    obtain ⟨k, hk, rfl, rfl⟩ := hrel
    by_cases hkN : k < N
    · have t1 : (k : Int) < (N : Int) := by omega
      have hch := HEL.out k (by omega)
      obtain ⟨b, hbb⟩ : ∃ o, L.getD k false = o := ⟨_, rfl⟩
      rw [hbb] at hch
      clear hbb
      cases b
      · have hc : ∀ h : k < sx.size, sx[k]'h = 48 := fun _ => hch
        clear hch
        go_wp2_with fail
        go_roundw
        case rel => exact ⟨k + 1, by omega, by go_num, trivial⟩
        case measure => simp [intOf]; omega
      · have hc : ∀ h : k < sx.size, sx[k]'h = 49 := fun _ => hch
        clear hch
        go_wp2_with fail
        go_roundw
        case rel => exact ⟨k + 1, by omega, by go_num, trivial⟩
        case measure => simp [intOf]; omega
    · have t1 : ¬ (k : Int) < (N : Int) := by omega
      go_wp2_with fail
      go_ret
      exact ⟨rfl, rfl⟩
end
end Dk
end Go.Proofs.YtpibeocngkjolaaGreatDoor

namespace Go.Proofs.YtpibeocngkjolaaGreatDoor
open Go.RowKit Go.Shelf
set_option linter.unusedSimpArgs false
set_option linter.unusedVariables false
namespace Dk
open Cf Bk Sc Qu Co
section
set_option maxRecDepth 100000
set_option maxHeartbeats 4000000
theorem over_nil (dc : Int) (w : World) : Calls Tryz.prog 15 #[bv dc none 0 0] w fun e w' => e = .returned (.tuple #[]) ∧ Below w.heap.size w w' := by
  have HB := Lib.hid ((Below.refl w.heap.size w).alloc (Nat.le_refl _) (.cells #[.int .i64 dc, .slice none 0 0] 27))
  go_enter Tryz.func15, Tryz.ntmps15
  go_wp2_with fail
  go_loopw [2] (fun i wr => i = .int .i64 0 ∧ wr = w.alloc (.cells #[.int .i64 dc, .slice none 0 0] 27)) (fun _ _ => 0)
  case atStart => exact ⟨rfl, rfl⟩
  case round =>
    obtain ⟨rfl, rfl⟩ := hrel
    go_wp2_with fail
    go_end0
    exact ⟨rfl, HB.out⟩
theorem over_row (dc : Int) (g n c : Nat) (cs : Array Value) (w : World) (hn : n ≤ 1000) (hg : w.heap[g]? = some (.cells cs 69 (0, 0))) (hc : n * 2 ≤ cs.size) :
    Calls Tryz.prog 15 #[bv dc (some ⟨g, 0, none⟩) n c] w fun e w' => e = .returned (.tuple #[]) ∧ w.grownBy w' (some g) := by
  have gl := (Array.getElem?_eq_some_iff.1 hg).1
  have B0 := (Below.refl w.heap.size w).alloc (Nat.le_refl _) (.cells #[.int .i64 dc, .slice (some ⟨g, 0, none⟩) n c] 27)
  have A0 := Lib.hid (At.new w #[.int .i64 dc, .slice (some ⟨g, 0, none⟩) n c] 27)
  have G0 := Lib.hid (grown_of_below B0 (some g))
  have H0 := Lib.hid ((B0.block g gl).trans hg)
  clear hg B0
  go_enter Tryz.func15, Tryz.ntmps15
  go_wp2_with fail
  go_loopw [2] (fun i wr => ∃ k : Nat, k ≤ n ∧ i = .int .i64 k ∧ Hid (At wr w.heap.size #[.int .i64 dc, .slice (some ⟨g, 0, none⟩) n c] 27) ∧ Hid (w.grownBy wr (some g)) ∧ Hid (∃ cs' : Array Value, n * 2 ≤ cs'.size ∧ wr.heap[g]? = some (.cells cs' 69 (0, 0)))) (fun i _ => n - (intOf i).toNat)
  case atStart => exact ⟨0, by omega, rfl, A0, G0, Lib.hid ⟨cs, hc, H0.out⟩⟩
  case round =>
    obtain ⟨k, hk, rfl, HA, HG, HC⟩ := hrel
    have a1 := HA.out.cell 1 _ rfl
    obtain ⟨cs', hz, hcs⟩ := HC.out
    by_cases hkn : k < n
    · have t1 : (k : Int) < (n : Int) := by omega
      have t0 : (0 : Int) ≤ (k : Int) := by omega
      have c0 : wr.cell? ⟨g, k * 2, none⟩ = some (cs'[k * 2]'(by omega)) := by rw [cell_of_row _ _ _ _ _ (0, 0) hcs]; simp
      have c1 : wr.cell? ⟨g, k * 2 + 1, none⟩ = some (cs'[k * 2 + 1]'(by omega)) := by rw [cell_of_row _ _ _ _ _ (0, 0) hcs]; simp
      have f0 := frozen_of_row hcs (k * 2)
      have f1 := frozen_of_row hcs (k * 2 + 1)
      have HG2 := Lib.hid (grown_set (grown_set HG.out (k * 2) (.int .i64 (-7))) (k * 2 + 1) (.int .i64 99))
      have HC2 := Lib.hid (ob_set (ob_set hcs (k * 2) (.int .i64 (-7))) (k * 2 + 1) (.int .i64 99))
      have HA2 := Lib.hid ((HA.out.kept (grown_cell2 wr g (k * 2) (.int .i64 (-7))) (fun e => by have := Option.some.inj e; omega)).kept (grown_cell2 _ g (k * 2 + 1) (.int .i64 99)) (fun e => by have := Option.some.inj e; omega))
      clear hcs
      go_wp2_with fail
      go_roundw
      case rel => exact ⟨k + 1, by omega, by go_num, HA2, HG2, Lib.hid ⟨_, by simpa using hz, HC2.out⟩⟩
      case measure => simp [intOf]; omega
    · have t1 : ¬ (k : Int) < (n : Int) := by omega
      go_wp2_with fail
      go_end0
      exact ⟨rfl, HG.out⟩
theorem over_any (dc : Int) (q : Option Addr) (n c B : Nat) (r l : Nat → Int) (w : World) (hn : n ≤ 1000) (h : OwnP w B (.slice q n c) n r l) :
    Calls Tryz.prog 15 #[bv dc q n c] w fun e w' => e = .returned (.tuple #[]) ∧ w.grownBy w' (Value.slice q n c).ownBlock := by
  rcases h.2 with ⟨h1, h2⟩ | ⟨g, cap, cur, h1, h2, h3, h4⟩
  · injection h1 with e1 e2 e3
    subst e1 e2 e3
    exact (over_nil dc w).mono fun e w' ⟨he, hb⟩ => ⟨he, grown_of_below hb none⟩
  · injection h1 with e1 e2 e3
    subst e1 e3
    obtain ⟨hn1, _, hz, _⟩ := h4
    exact over_row dc g n _ cur w hn h3 (by rw [hz]; omega)
theorem flat_any (dc by' : Int) (w : World) (h1 : 1 ≤ dc) (h2 : dc ≤ 255) (h3 : dc ≠ 128) (q1 : 1 ≤ by') (q2 : by' ≤ 31) :
    Calls Tryz.prog 31 #[bv dc none 0 0, .int .i64 by', .int .i64 (if dc = 255 then 128 else dc)] w fun e w' => e = .returned (.bool true) ∧ Below w.heap.size w w' := by
  have HE : bE dc 0 (fun _ => 0) (fun _ => 0) true = 0 := by
    unfold bE dE
    rw [if_pos rfl, if_neg (by omega)]
    rfl
  have HR : rsE dc 0 (fun _ => 0) (fun _ => 0) true by' = 0 := by
    unfold rsE
    rw [HE]
    simp
    omega
  have HN : rsN dc 0 (fun _ => 0) (fun _ => 0) true by' = 64 := by unfold rsN; rw [HR]; rfl
  have B0 := (Below.refl w.heap.size w).alloc (Nat.le_refl _) (.cells #[.int .i64 dc, .slice none 0 0] 27)
  have HB := Lib.hid B0
  have HP : Pl (w.alloc (.cells #[.int .i64 dc, .slice none 0 0] 27)) (.slice none 0 0) 0 (fun _ => 0) (fun _ => 0) := (ownP_nil _ 0 _ _).pl
  have HRS := Lib.hid (Residue_any dc none 0 0 (fun _ => 0) (fun _ => 0) true by' (by omega) _ HP)
  have HF := Lib.hid (fun i hi => flat_inv h1 h2 h3 (fun _ => 0) (fun _ => 0) by' (i := i) hi)
  rw [HR, HN] at HRS
  obtain ⟨want, hw⟩ : ∃ x, (if dc = 255 then 128 else dc) = x := ⟨_, rfl⟩
  rw [hw] at HF ⊢
  generalize invC (wF dc 0 (fun _ => 0) (fun _ => 0) true by') = f at *
  clear B0 HP HE HR HN hw
  go_enter Tryz.func31, Tryz.ntmps31
  go_wp2_with (go_at_call 26; refine HRS.out.mono ?_; rintro e w1 ⟨v, rfl, hres, hb⟩; have HS := Lib.hid hres; have HB1 := Lib.hid (chain HB.out hb); obtain ⟨a, c, rfl, z1, z2, z3⟩ := hres.sl; clear hb hres)
  rcases z3 with ⟨h, _⟩ | ⟨b, o, rfl, hbl, hI⟩
  · omega
  have HI := Lib.hid hI
  clear hI z1 z2 hbl
  go_loopw [9] (fun i wr => ∃ k : Nat, k ≤ 64 ∧ i = .int .i64 k ∧ w1 = wr) (fun i _ => 64 - (intOf i).toNat)
  case atStart => exact ⟨0, by omega, rfl, rfl⟩
  case round =>
    obtain ⟨k, hk, rfl, rfl⟩ := hrel
    by_cases hkN : k < 64
    · have t1 : (k : Int) < 64 := by omega
      have t0 : (0 : Int) ≤ (k : Int) := by omega
      have c0 := HI.out k hkN
      rw [HF.out k hkN] at c0
      have t2 : (want != want) = false := by simp
      go_wp2_with fail
      go_roundw
      case rel => exact ⟨k + 1, by omega, by go_num, trivial⟩
      case measure => simp [intOf]; omega
    · obtain rfl : k = 64 := by omega
      go_wp2_with fail
      go_ret
      exact ⟨rfl, HB1.out⟩
end
end Dk
end Go.Proofs.YtpibeocngkjolaaGreatDoor
