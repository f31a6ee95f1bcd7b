/- The kit's Bits. | law08: bytes: a text of bits, and others behind it, as bytes. | law12: bytes (law08's text, turned by gen_dqy). -/
import Derived.Test.YtpibeocngkjolaaGreatDoorMgChD
import Derived.Test.YtpibeocngkjolaaGreatDoorMgCiW
import Derived.Laws.AppendOwnNone
set_option linter.unusedVariables false
set_option linter.unusedSimpArgs false

namespace Go.Proofs.YtpibeocngkjolaaGreatDoor
open Go.RowKit
set_option linter.unusedSimpArgs false
set_option linter.unusedVariables false
namespace Cf
theorem made_arrB {w : World} {base g N : Nat} {e : TypeId} {k : IntKind} (h : w.ownsRow base e 1 (.slice (some ⟨g, 0, none⟩) N N) N (madeCells (Value.int k 0).cells (N * 1)).toList) : Arr w k g N (fun _ => 0) := by
  have hc := fun j u hu => World.ownsRow.cells h (g := g) rfl j u hu
  rcases h.2 with ⟨h0, _⟩ | ⟨g', cap, cur, h1, h2, h3, h4⟩
  · cases h0
  · cases h1
    intro i hi
    have h5 := hc i (.int k 0) (by simp [madeCells, Value.cells, hi, Nat.mod_one])
    rw [show (⟨g, 0, none⟩ : Addr).add i = ⟨g, i, none⟩ by unfold Addr.add; split <;> simp_all] at h5
    exact ⟨h5, frozen_of_row h3 i⟩
def BitsTo (w : World) (n : Nat) (f : Nat → Int) (e : Ending) (w' : World) : Prop :=
  ∃ g, e = .returned (.slice (some ⟨g, 0, none⟩) ((n + 7) / 8) ((n + 7) / 8)) ∧ Arr w' .u8 g ((n + 7) / 8) (byV f n) ∧ g < w'.heap.size ∧ w.heap.size ≤ g ∧ Below w.heap.size w w'
section
set_option maxRecDepth 100000
set_option maxHeartbeats 4000000
theorem Bits_any (v : Value) (n : Nat) (f : Nat → Int) (w : World) (hn : n ≤ 100000) (hs : Sl .i64 w v n f) :
    Calls Tryz.prog 60 #[v] w (BitsTo w n f) := by
  obtain ⟨i0, hi, hz0, hz1, hz2⟩ := info_parts info_u8
  have HS := Lib.hid hs
  obtain ⟨a, c, rfl, hnc, hcm, hd⟩ := hs
  obtain ⟨N, hN⟩ : ∃ N, (n + 7) / 8 = N := ⟨_, rfl⟩
  have hq : ((n : Int) + 7) / 8 = (N : Int) := by omega
  have hq2 : Int.tdiv ((n : Int) + 7) 8 = (N : Int) := by rw [Int.tdiv_eq_ediv_of_nonneg (by omega)]; exact hq
  obtain ⟨w1, h1, h2, h3⟩ := run_make_full (P := Tryz.prog) w w.heap.size 22 5 i0 (.int .u8 0) 1 Tryz.underlying22 hi hz0 hz1 .i64 .i64 N (by rw [hz2]; omega) (by unfold maxLen; omega) (Nat.le_refl _)
  have HM := Lib.hid (made_arrB h2)
  have HB0 := Lib.hid ((Below.refl w.heap.size w).grown h3 (Nat.le_refl _) (fun _ e => by cases e))
  have hlt : w.heap.size < w1.heap.size := by
    rcases h2.2 with ⟨h0, _⟩ | ⟨g', cap, cur, h1, _, h3, _⟩
    · cases h0
    · cases h1
      exact (Array.getElem?_eq_some_iff.1 h3).1
  have HN := Lib.hid hN
  have nb : (n : Int) ≤ 100000 := by omega
  clear h2 h3 hN hd
  unfold BitsTo
  rw [HN.out]
  go_enter Tryz.func60, Tryz.ntmps60
  go_wp2_with fail
  clear h1
  go_loopw [4] (fun i wr => ∃ k : Nat, k ≤ n ∧ i = .int .i64 k ∧ Hid (Arr wr .u8 w.heap.size N (byV f k)) ∧ Hid (Below w.heap.size w wr) ∧ w.heap.size < wr.heap.size) (fun i _ => n - (intOf i).toNat)
  case atStart => exact ⟨0, by omega, rfl, Lib.hid (HM.out.congr (fun i _ => (byV_0 f i).symm)), HB0, hlt⟩
  case round =>
    obtain ⟨k, hk, rfl, HA, HB, hl⟩ := hrel
    by_cases hkn : k < n
    · have t1 : (k : Int) < (n : Int) := by omega
      have t0 : (0 : Int) ≤ (k : Int) := by omega
      have hs2 := HS.out.below HB.out
      obtain ⟨a2, c2, hv, _, _, hd2⟩ := hs2
      rcases hd2 with ⟨h, _⟩ | ⟨b, o, ha, hbl, hI⟩
      · omega
      subst ha
      injection hv with hv1 hv2 hv3
      subst hv1
      have cF := hI k hkn
      have HF := Lib.hid (rfl : f k = f k)
      obtain ⟨x, hx⟩ : ∃ x, f k = x := ⟨_, rfl⟩
      rw [hx] at cF
      have HX := Lib.hid hx
      clear hx hI hv2 hv3 hbl
      have htm : Int.tmod x 2 = 0 ↔ x % 2 = 0 := by
        rw [Int.dvd_iff_tmod_eq_zero.symm, Int.dvd_iff_emod_eq_zero]
      by_cases hev : x % 2 = 0
      · have e1 : Int.tmod x 2 = 0 := htm.2 hev
        have HE := Lib.hid (byV_even (f := f) (k := k) (by rw [HX.out]; exact hev))
        clear htm hev
        go_wp2_with fail
        go_roundw
        case rel => exact ⟨k + 1, by omega, by go_num, Lib.hid (HA.out.congr (fun j _ => (HE.out j).symm)), HB, hl⟩
        case measure => simp [intOf]; omega
      · have e1 : (Int.tmod x 2 == 0) = false := by rw [beq_eq_false_iff_ne]; exact fun h => hev (htm.1 h)
        have e2 : (Int.tmod x 2 != 0) = true := by simp; exact fun h => hev (htm.1 h)
        have HO := Lib.hid (byV_odd (f := f) (k := k) (by rw [HX.out]; omega))
        obtain ⟨q, hqk⟩ : ∃ q, k / 8 = q := ⟨_, rfl⟩
        obtain ⟨r, hrk⟩ : ∃ r, k % 8 = r := ⟨_, rfl⟩
        have hkq : k = 8 * q + r := by omega
        have hr8 : r < 8 := by omega
        have d1 : (k : Int) / 8 = (q : Int) := by omega
        have d2 : Int.tdiv (k : Int) 8 = (q : Int) := by rw [Int.tdiv_eq_ediv_of_nonneg t0]; exact d1
        have hqN : q < N := by have := HN.out; omega
        have q0 : (0 : Int) ≤ (q : Int) := by omega
        have q1 : (q : Int) < (N : Int) := by omega
        have OR := byV_or f k q r hkq hr8
        have bd := byV_bd f k q
        have cA := (HA.out q hqN).1
        have fA := (HA.out q hqN).2
        have m1 : (k : Int) % 8 = (r : Int) := by omega
        have m2 : Int.tmod (k : Int) 8 = (r : Int) := by rw [Int.tmod_eq_emod_of_nonneg t0]; exact m1
        rw [hqk, hrk] at HO
        have HNX : Hid (∀ V, V = wr.setCell ⟨w.heap.size, q, none⟩ (.int .u8 (byV f k q + 2 ^ (7 - r))) → Arr V .u8 w.heap.size N (byV f (k + 1)) ∧ Below w.heap.size w V ∧ w.heap.size < V.heap.size) := Lib.hid fun V hV => by
          subst hV
          refine ⟨(HA.out.set q _).congr (fun j _ => ?_), HB.out.setCell (p := ⟨w.heap.size, q, none⟩) (Nat.le_refl _) _, by simpa using hl⟩
          rw [HO.out j]
          by_cases e : j = q
          · subst e; simp
          · rw [if_neg e, if_neg e]
        obtain ⟨y, hy⟩ : ∃ y, byV f k q = y := ⟨_, rfl⟩
        rw [hy] at OR bd cA HNX
        have y0 := bd.1
        have y1 := bd.2
        have HQK := Lib.hid hqk
        clear htm hev hqk hrk hkq hy bd HO hk HX HF
        rcases (by omega : r = 0 ∨ r = 1 ∨ r = 2 ∨ r = 3 ∨ r = 4 ∨ r = 5 ∨ r = 6 ∨ r = 7) with rfl | rfl | rfl | rfl | rfl | rfl | rfl | rfl
        all_goals
          simp only [Nat.reduceSub, Int.reducePow, Int.ofNat_zero, Int.cast_ofNat_Int] at OR HNX m1 m2
          clear hr8
          go_wp2_with fail
          go_roundw
          case rel =>
            have G := HNX.out _ rfl
            exact ⟨k + 1, by omega, by go_num, Lib.hid G.1, Lib.hid G.2.1, G.2.2⟩
          case measure => simp [intOf]; omega
    · obtain rfl : k = n := by omega
      have t1 : ¬ (k : Int) < (k : Int) := by omega
      go_wp2_with fail
      go_ret
      exact ⟨w.heap.size, rfl, HA.out, hl, Nat.le_refl _, HB.out⟩
end
end Cf
end Go.Proofs.YtpibeocngkjolaaGreatDoor

namespace Go.Proofs.YtpibeocngkjolaaGreatDoor
open Go.RowKit
set_option linter.unusedSimpArgs false
set_option linter.unusedVariables false
namespace Cf
def b01 (b : Bool) : Int := if b then 1 else 0
/-- a text's bits, and numbers behind. -/
def jnF (l : List Bool) (g : Nat → Int) (i : Nat) : Int := if i < l.length then b01 (l.getD i false) else g (i - l.length)
def bitC (l : List Bool) : List Value := l.map fun b => .int .i64 (b01 b)
theorem bitC_range (l : List Bool) (g : Nat → Int) : bitC l = (List.range l.length).map fun i => .int .i64 (jnF l g i) := by
  unfold bitC
  apply List.ext_getElem
  · simp
  · intro i h1 h2
    simp at h1
    simp [jnF, h1, List.getD_eq_getElem?_getD]
theorem jn_range (l : List Bool) (g : Nat → Int) (m : Nat) : bitC l ++ ((List.range m).map fun i => Value.int .i64 (g i)) = (List.range (l.length + m)).map fun i => .int .i64 (jnF l g i) := by
  rw [bitC_range l g, List.range_add, List.map_append, List.map_map]
  congr 1
  apply List.map_congr_left
  intro i _
  show Value.int .i64 (g i) = .int .i64 (jnF l g (l.length + i))
  unfold jnF
  rw [if_neg (by omega), Nat.add_sub_cancel_left]
theorem bitC_take (l : List Bool) (k : Nat) (h : k < l.length) : bitC (l.take (k + 1)) = bitC (l.take k) ++ [.int .i64 (b01 (l.getD k false))] := by
  rw [List.take_succ_eq_append_getElem h]
  unfold bitC
  rw [List.map_append, List.getD_eq_getElem?_getD, List.getElem?_eq_getElem h]
  rfl
def BytesTo (w : World) (l : List Bool) (g : Nat → Int) (m : Nat) (e : Ending) (w' : World) : Prop :=
  ∃ gb, e = .returned (.slice (some ⟨gb, 0, none⟩) ((l.length + m + 7) / 8) ((l.length + m + 7) / 8)) ∧ Arr w' .u8 gb ((l.length + m + 7) / 8) (byV (jnF l g) (l.length + m)) ∧ gb < w'.heap.size ∧ w.heap.size ≤ gb ∧ Below w.heap.size w w'
theorem info_i64b : (Tryz.prog.info? 3).map (fun i => (i.zero, i.size, i.bytes)) = some (some (.int .i64 0), 1, 8) := by kernel_rfl
theorem sl_own {W : World} {B n : Nat} {v : Value} {xs : List Value} {l : List Bool} {g : Nat → Int} (h : W.ownsRow B 3 1 v n xs) (e : (List.range n).map (fun i => Value.int .i64 (jnF l g i)) = xs) : Sl .i64 W v n (jnF l g) := by
  subst e
  exact (Res.of_own h).sl
section
set_option maxRecDepth 100000
set_option maxHeartbeats 4000000
end
end Cf
end Go.Proofs.YtpibeocngkjolaaGreatDoor

namespace Go.Proofs.YtpibeocngkjolaaGreatDoor
open Go.RowKit
set_option linter.unusedSimpArgs false
set_option linter.unusedVariables false
namespace Dk
open Cf
section
set_option maxRecDepth 100000
set_option maxHeartbeats 4000000
theorem lbytes12_any (l : List Bool) (v : Value) (m : Nat) (g : Nat → Int) (w : World) (h1 : 1 ≤ l.length) (h2 : l.length ≤ 2000) (hm : m ≤ 1000) (hs : Sl .i64 w v m g) :
    Calls Tryz.prog 33 #[sv (cs l), v] w (BytesTo w l g m) := by
  obtain ⟨i0, hi, hz0, hz1, hz2⟩ := info_parts info_i64b
  have HS := Lib.hid hs
  have hx := ba_size (cs l)
  rw [cs_len] at hx
  have hel : ∀ (j : Nat) (h : j < (⟨(cs l).toArray⟩ : ByteArray).size), (⟨(cs l).toArray⟩ : ByteArray)[j]'h = bch (l.getD j false) := by
    intro j h
    have h2 : j < (cs l).length := h
    have h3 : j < l.length := by rw [cs_len] at h2; exact h2
    show (cs l)[j]'h2 = _
    simp only [cs, List.getElem_map]
    rw [List.getD_eq_getElem?_getD, List.getElem?_eq_getElem h3]
    rfl
  have HEL := Lib.hid hel
  have HBT := Lib.hid (fun W V' (h : Sl .i64 W V' (l.length + m) (jnF l g)) => Bits_any V' (l.length + m) (jnF l g) W (by omega) h)
  have HJ := Lib.hid (jn_range l g m)
  have HJ0 := Lib.hid (bitC_range l g)
  have HTK := Lib.hid (bitC_take l)
  have HTF := Lib.hid (List.take_length (l := l))
  unfold BytesTo sv
  obtain ⟨N, hN⟩ : ∃ N, l.length = N := ⟨_, rfl⟩
  rw [hN] at h1 h2 hx HBT HJ HJ0 HTK HTF ⊢
  obtain ⟨sx, hsx⟩ : ∃ s : ByteArray, (⟨(cs l).toArray⟩ : ByteArray) = s := ⟨_, rfl⟩
  rw [hsx] at hx HEL ⊢
  clear hsx hN hel hs
  go_enter Tryz.func33, Tryz.ntmps33
  go_wp2_with fail
  go_loopw [5, 6] (fun o i wr => ∃ k : Nat, k ≤ N ∧ i = .int .i64 k ∧ Hid (wr.ownsRow w.heap.size 3 1 o k (bitC (l.take k))) ∧ Hid (Below w.heap.size w wr)) (fun _ i _ => N - (intOf i).toNat)
  case atStart => exact ⟨0, by omega, rfl, Lib.hid (World.ownsRow_nil _ _ _ _), Lib.hid (Below.refl _ _)⟩
  case round =>
    obtain ⟨k, hk, rfl, HO, HB⟩ := hrel
    by_cases hkN : k < N
    · have t1 : (k : Int) < (N : Int) := by omega
      have hch := HEL.out k (by omega)
      have z0 := HB.out.size
      have HT := Lib.hid (HTK.out k hkN)
      obtain ⟨b, hbb⟩ : ∃ o, l.getD k false = o := ⟨_, rfl⟩
      rw [hbb] at hch HT
      clear hbb
      cases b
      · have hc : ∀ h : k < sx.size, sx[k]'h = 48 := fun _ => hch
        clear hch
        go_wp2_with (at_builtin; refine wpList_append_own _ rfl (.tmp 13) (.tmp 19) 38 rfl w.heap.size 3 i0 (.int .i64 0) 1 8 Tryz.underlying38 hi hz0 hz1 hz2 rfl (by decide) _ _ _ rfl (HO.out.alloc _) ⟨wr.heap.size, 0, none⟩ 1 1 [.int .i64 0] rfl rfl (cell_one_new _ _ _) (by simp [Value.oneCell']) (by unfold maxLen; omega) (by omega) (by simp; omega) ?_; intro v5 w5 own5 gr5 _; have O5 := Lib.hid own5; have B5 := Lib.hid ((HB.out.alloc z0 (.cells #[.int .i64 0] 3)).grown gr5 (by simp; omega) (fun q hq => (HO.out.lt q hq).1)); clear own5 gr5)
        go_roundw
        case rel => exact ⟨k + 1, by omega, by go_num, Lib.hid (by rw [HT.out]; exact O5.out), B5⟩
        case measure => simp [intOf]; omega
      · have hc : ∀ h : k < sx.size, sx[k]'h = 49 := fun _ => hch
        clear hch
        go_wp2_with (at_builtin; refine wpList_append_own _ rfl (.tmp 13) (.tmp 19) 38 rfl w.heap.size 3 i0 (.int .i64 0) 1 8 Tryz.underlying38 hi hz0 hz1 hz2 rfl (by decide) _ _ _ rfl (HO.out.alloc _) ⟨wr.heap.size, 0, none⟩ 1 1 [.int .i64 1] rfl rfl (cell_one_new _ _ _) (by simp [Value.oneCell']) (by unfold maxLen; omega) (by omega) (by simp; omega) ?_; intro v5 w5 own5 gr5 _; have O5 := Lib.hid own5; have B5 := Lib.hid ((HB.out.alloc z0 (.cells #[.int .i64 1] 3)).grown gr5 (by simp; omega) (fun q hq => (HO.out.lt q hq).1)); clear own5 gr5)
        go_roundw
        case rel => exact ⟨k + 1, by omega, by go_num, Lib.hid (by rw [HT.out]; exact O5.out), B5⟩
        case measure => simp [intOf]; omega
    · obtain rfl : k = N := by omega
      have t1 : ¬ (k : Int) < (k : Int) := by omega
      have z0 := HB.out.size
      have O0 : Hid (wr.ownsRow w.heap.size 3 1 u5 k (bitC l)) := Lib.hid (by have e := HTF.out; have h := HO.out; rw [e] at h; exact h)
      have hs2 := HS.out.below HB.out
      obtain ⟨a2, c2, rfl, h5, h6, hd⟩ := hs2
      rcases hd with ⟨rfl, hc0⟩ | ⟨b, o, rfl, hbl, hI⟩
      · cases a2 with
        | none =>
          obtain rfl : c2 = 0 := hc0 rfl
          have S0 : Hid (Sl .i64 wr u5 (k + 0) (jnF l g)) := Lib.hid (by have h := O0.out; rw [HJ0.out] at h; exact (Res.of_own h).sl)
          clear hc0 h5 h6
          go_wp2_with (first
            | (at_builtin; refine wpList_append_own_none rfl (.tmp 21) (.tmp 22) 38 rfl w.heap.size 3 i0 1 Tryz.underlying38 hi _ _ _ rfl O0.out rfl ?_)
            | (go_at_call 60; refine (HBT.out _ _ S0.out).mono ?_; rintro e w7 ⟨gb, rfl, A7, l7, m7, b7⟩; have A8 := Lib.hid A7; have B8 := Lib.hid (chain HB.out b7); have L7 := Lib.hid l7; have M7 := Lib.hid (Nat.le_trans HB.out.size m7); clear A7 l7 m7 b7))
          go_ret
          exact ⟨gb, rfl, A8.out, L7.out, M7.out, B8.out⟩
        | some ad =>
          clear hc0 h5 h6
          go_wp2_with (first
            | (at_builtin; refine wpList_append_own _ rfl (.tmp 21) (.tmp 22) 38 rfl w.heap.size 3 i0 (.int .i64 0) 1 8 Tryz.underlying38 hi hz0 hz1 hz2 rfl (by decide) _ _ _ rfl O0.out ad 0 c2 [] rfl (by simp) (by simp) (by simp) (by unfold maxLen; omega) (by omega) z0 ?_; intro v6 w6 own6 gr6 _; have O6 := Lib.hid own6; have B6 := Lib.hid (HB.out.grown gr6 z0 (fun q hq => (O0.out.lt q hq).1)); clear own6 gr6)
            | (go_at_call 60; refine (HBT.out _ _ (sl_own (l := l) (g := g) O6.out (by rw [← HJ.out]; first | done | simp))).mono ?_; rintro e w7 ⟨gb, rfl, A7, l7, m7, b7⟩; have A8 := Lib.hid A7; have B8 := Lib.hid (chain B6.out b7); have L7 := Lib.hid l7; have M7 := Lib.hid (Nat.le_trans B6.out.size m7); clear A7 l7 m7 b7))
          go_ret
          exact ⟨gb, rfl, A8.out, L7.out, M7.out, B8.out⟩
      · have NW := Lib.hid (news_ints hI)
        have OW := Lib.hid (one_cells .i64 m g)
        clear hI h5 h6
        go_wp2_with (first
          | (at_builtin; refine wpList_append_own _ rfl (.tmp 21) (.tmp 22) 38 rfl w.heap.size 3 i0 (.int .i64 0) 1 8 Tryz.underlying38 hi hz0 hz1 hz2 rfl (by decide) _ _ _ rfl O0.out ⟨b, o, none⟩ m c2 ((List.range m).map fun i => Value.int .i64 (g i)) rfl (by simp) NW.out OW.out (by unfold maxLen; omega) (by omega) z0 ?_; intro v6 w6 own6 gr6 _; have O6 := Lib.hid own6; have B6 := Lib.hid (HB.out.grown gr6 z0 (fun q hq => (O0.out.lt q hq).1)); clear own6 gr6)
          | (go_at_call 60; refine (HBT.out _ _ (sl_own (l := l) (g := g) O6.out (HJ.out.symm))).mono ?_; rintro e w7 ⟨gb, rfl, A7, l7, m7, b7⟩; have A8 := Lib.hid A7; have B8 := Lib.hid (chain B6.out b7); have L7 := Lib.hid l7; have M7 := Lib.hid (Nat.le_trans B6.out.size m7); clear A7 l7 m7 b7))
        go_ret
        exact ⟨gb, rfl, A8.out, L7.out, M7.out, B8.out⟩
end
end Dk
end Go.Proofs.YtpibeocngkjolaaGreatDoor
