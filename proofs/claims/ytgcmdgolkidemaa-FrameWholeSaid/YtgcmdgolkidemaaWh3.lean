/- FrameWhole. -/
import Derived.Test.YtgcmdgolkidemaaWh2
namespace Go.Proofs.Ytgcmdgolkidemaa
open Go.RowKit
namespace Wh
open Fr L13

structure St (NG : Nat) (F : Nat → Int) (R : Nat → Nat) (w0 wr : World) (gg gs N T : Nat) : Prop where
  l : Arr wr .i64 gg NG F
  s : BArr wr gs N (fun p => decide (R p < T))
  b : Below w0.heap.size w0 wr
  ne : gg ≠ gs
  hs : w0.heap.size ≤ gs
  pn : 0 < NG
  pN : 0 < N
theorem St.below {NG : Nat} {F : Nat → Int} {R : Nat → Nat} {w0 wr w' : World} {gg gs N T : Nat} (h : St NG F R w0 wr gg gs N T) (hb : Below wr.heap.size wr w') : St NG F R w0 w' gg gs N T :=
  ⟨h.l.below hb (h.l.lt h.pn), h.s.below hb (h.s.lt h.pN), chain h.b hb, h.ne, h.hs, h.pn, h.pN⟩
theorem St.marked {NG : Nat} {F : Nat → Int} {R : Nat → Nat} {w0 wr w' : World} {gg gs N T T' : Nat} (h : St NG F R w0 wr gg gs N T) (hg : wr.grownBy w' (some gs)) (hs : BArr w' gs N (fun p => decide (R p < T'))) : St NG F R w0 w' gg gs N T' :=
  ⟨h.l.grown hg (fun e => h.ne (Option.some.inj e)), hs, h.b.grown hg h.b.size (fun k hk => by cases hk; exact h.hs), h.ne, h.hs, h.pn, h.pN⟩
theorem St.at {NG : Nat} {F : Nat → Int} {R : Nat → Nat} {w0 wr : World} {gg gs N T T' : Nat} (h : St NG F R w0 wr gg gs N T) (e : T = T') : St NG F R w0 wr gg gs N T' := by rw [← e]; exact h
def prev (n : Int) (j : Nat) : Int := if j = 0 then 0 else grF n (j - 1)
theorem nx_of0 : ∀ j, j < 3 → Nx.nV 0 (prev 0 j) = grF 0 j ∧ Nx.nEr 0 (prev 0 j) = 0 := by decide +kernel
theorem nx_last0 : Nx.nV 0 (prev 0 3) = 0 ∧ Nx.nEr 0 (prev 0 3) = 0 := by decide +kernel
theorem blk0 (j m k : Nat) (hj : j < 3) (hm : 1 ≤ m ∧ m ≤ 33) (hk : 1 ≤ k ∧ k ≤ 6) (i : Nat) (hi : i < 64) :
    (ix0 j (m - 1) (k - 1) i : Int) = Pt.pA 0 (grF 0 j) m k + (i : Int) / 8 * Pt.pS 0 (grF 0 j) m k + (i : Int) % 8 ∧ ix0 j (m - 1) (k - 1) i < 38016 ∧ decide (rk0 (ix0 j (m - 1) (k - 1) i) < num j (m - 1) (k - 1) i) = false ∧
    ∀ p, p < 38016 → decide (rk0 p < num j (m - 1) (k - 1) (i + 1)) = (decide (p = ix0 j (m - 1) (k - 1) i) || decide (rk0 p < num j (m - 1) (k - 1) i)) := by
  have hp := pl_row 0 (grF 0 j) m k (by decide) (ing_of 0 j hj) (by omega) (by omega)
  refine ⟨?_, (ix_parts0 hj (by omega) (by omega) hi).1, ?_, fun p hp => rk_step0 hj (by omega) (by omega) hi hp⟩
  · rw [hp.1, hp.2.1]; exact ix_pl0 j m k i hj hm hk
  · rw [rk_ix0 hj (by omega) (by omega) hi]; exact decide_eq_false (Nat.lt_irrefl _)
theorem pl_bd0 (j m k : Nat) (hj : j < 3) (hm : 1 ≤ m ∧ m ≤ 33) (hk : 1 ≤ k ∧ k ≤ 6) : (0 ≤ Pt.pA 0 (grF 0 j) m k ∧ Pt.pA 0 (grF 0 j) m k ≤ 200000) ∧ (0 ≤ Pt.pS 0 (grF 0 j) m k ∧ Pt.pS 0 (grF 0 j) m k ≤ 1000) ∧ Pt.pE 0 (grF 0 j) m k = 0 := by
  have hp := pl_row 0 (grF 0 j) m k (by decide) (ing_of 0 j hj) (by omega) (by omega)
  have h := blk0 j m k hj hm hk 0 (by decide)
  have h1 := h.1
  have h2 := h.2.1
  simp at h1
  refine ⟨⟨by omega, by omega⟩, ?_, hp.2.2⟩
  rw [hp.2.1]; unfold Pt.bS; rw [show wV 0 = 176 from rfl]; split <;> omega

set_option maxRecDepth 100000 in
set_option maxHeartbeats 2000000 in
theorem FrameWhole_0 (w : World) : Calls Try.prog 6 #[.bool false] w fun e w' => e = .returned (.bool true) ∧ Below w.heap.size w w' := by
  obtain ⟨i0, hi, hz0, hz1, hz2⟩ := info_parts info_bool
  obtain ⟨N, hN⟩ : ∃ N : Nat, N = 38016 := ⟨_, rfl⟩
  have HN := Lib.hid hN
  have Nb : 0 < N ∧ N ≤ 200000 := by omega
  have kn1 : decide ((N : Int) < 1) = false := decide_eq_false (by omega)
  have kn2 : decide (200000 < (N : Int)) = false := decide_eq_false (by omega)
  have ZE : Hid (zV 0 = (N : Int)) := Lib.hid (by rw [hN]; rfl)
  clear hN
  go_enter Try.func6, Try.ntmps6
  go_wp2_with fail
  refine (FrameKnown_any _).mono ?_
  rintro e w1 ⟨rfl, b1⟩
  have HB := Lib.hid b1
  clear b1
  go_wp2_with fail
  refine (Size_any 0 _).mono ?_
  rintro e w2 ⟨rfl, rfl⟩
  rw [show wV 0 = 176 from rfl, show hV 0 = 144 from rfl, show fE 0 = 0 from rfl, ZE.out]
  go_wp2_with fail
  refine (Groups_any 0 _).mono ?_
  rintro e w2 ⟨v, rfl, hR, b2⟩
  rw [show fE 0 = 0 from rfl]
  rcases hR with ⟨h0, _⟩ | ⟨gg, c, rfl, h1, h2, h3, h4, hA⟩
  · exact absurd h0 (by decide)
  have HA := Lib.hid (show Arr w2 .i64 gg 3 (grF 0) from hA)
  have HB := Lib.hid (chain HB.out b2)
  rw [show grN 0 = 3 from rfl]
  clear hA b2 h1 h3 h4
  go_wp2_with (refine wpList_make_full w2 rfl _ _ 42 rfl w2.heap.size 4 i0 (.bool false) 1 Try.underlying42 hi hz0 hz1 .i64 .i64 _ _ N rfl rfl rfl rfl (by rw [hz2]; omega) (by unfold maxLen; omega) (Nat.le_refl _) ?_; intro w3 hown hgr; have HS := Lib.hid (made_barr hown); have HG := Lib.hid hgr; clear hown hgr)
  have HST : Hid (St 3 (grF 0) rk0 w w3 gg w2.heap.size N (num 0 0 0 0)) := Lib.hid ⟨HA.out.below ((Below.refl w2.heap.size w2).grown HG.out (Nat.le_refl _) (fun _ e => by cases e)) h2, HS.out.congr (fun i _ => (decide_eq_false (by unfold num; omega)).symm), HB.out.grown HG.out HB.out.size (fun _ e => by cases e), by omega, HB.out.size, by decide, Nb.1⟩
  obtain ⟨gs, hgs⟩ : ∃ gs, w2.heap.size = gs := ⟨_, rfl⟩
  rw [hgs] at HST ⊢
  clear HA HB HS HG h2 hi hz0 hz1 hz2 hgs
  go_loopw [12, 13] (fun grp i wr => ∃ j : Nat, j ≤ 3 ∧ grp = .int .i64 (prev 0 j) ∧ i = .int .i64 j ∧ St 3 (grF 0) rk0 w wr gg gs N (num j 0 0 0)) (fun _ i _ => 3 - (intOf i).toNat)
  case atStart => exact ⟨0, by omega, rfl, rfl, HST.out⟩
  case round =>
    clear HST
    obtain ⟨j, hj, rfl, rfl, hst⟩ := hrel
    have HST := Lib.hid hst
    clear hst
    by_cases hjN : j < 3
    · obtain ⟨P, hP⟩ : ∃ P, prev 0 j = P := ⟨_, rfl⟩
      have hnx := nx_of0 j hjN
      rw [hP] at hnx
      have NX := Lib.hid hnx
      obtain ⟨G, hG⟩ : ∃ G, grF 0 j = G := ⟨_, rfl⟩
      have HGe := Lib.hid hG
      have cj := (HST.out.l j hjN).1
      rw [hG] at cj
      have jb : (0 : Int) ≤ (j : Int) ∧ (j : Int) < 3 := by omega
      have dj : decide ((j : Int) < 3) = true := decide_eq_true (by omega)
      rw [hP]
      clear hP hG hnx cj
      go_wp2_with fail
      refine (Nx.Next_any 0 P _).mono ?_
      rintro e w4 ⟨rfl, b4⟩
      rw [NX.out.1, NX.out.2, HGe.out]
      have HST := Lib.hid (HST.out.below b4)
      have cj := (HST.out.l j hjN).1
      rw [HGe.out] at cj
      have t1 : (G != G) = false := by simp
      clear b4
      go_wp2_with fail
      clear cj
      go_loopw [16] (fun i wr => ∃ m : Nat, 1 ≤ m ∧ m ≤ 34 ∧ i = .int .i64 m ∧ St 3 (grF 0) rk0 w wr gg gs N (num j (m - 1) 0 0)) (fun i _ => 34 - (intOf i).toNat)
      case atStart => exact ⟨1, by omega, by omega, rfl, HST.out⟩
      case round =>
        clear HST
        obtain ⟨m, hm1, hm, rfl, hst⟩ := hrel
        have HST := Lib.hid hst
        clear hst
        by_cases hm3 : m ≤ 33
        · have dm : decide ((m : Int) ≤ 33) = true := decide_eq_true (by omega)
          have mb : (1 : Int) ≤ (m : Int) ∧ (m : Int) ≤ 33 := by omega
          go_wp2_with fail
          go_loopw [17] (fun i wr => ∃ k : Nat, 1 ≤ k ∧ k ≤ 7 ∧ i = .int .i64 k ∧ St 3 (grF 0) rk0 w wr gg gs N (num j (m - 1) (k - 1) 0)) (fun i _ => 7 - (intOf i).toNat)
          case atStart => exact ⟨1, by omega, by omega, rfl, HST.out⟩
          case round =>
            clear HST
            obtain ⟨k, hk1, hk, rfl, hst⟩ := hrel
            have HST := Lib.hid hst
            clear hst
            by_cases hk6 : k ≤ 6
            · have dk : decide ((k : Int) ≤ 6) = true := decide_eq_true (by omega)
              have BK := Lib.hid (fun i hi => blk0 j m k hjN ⟨hm1, hm3⟩ ⟨hk1, hk6⟩ i hi)
              have BD := pl_bd0 j m k hjN ⟨hm1, hm3⟩ ⟨hk1, hk6⟩
              rw [HGe.out] at BD
              obtain ⟨A, hA⟩ : ∃ A, Pt.pA 0 G m k = A := ⟨_, rfl⟩
              obtain ⟨S, hS⟩ : ∃ S, Pt.pS 0 G m k = S := ⟨_, rfl⟩
              rw [hA, hS] at BD
              obtain ⟨bA, bS, hE⟩ := BD
              have HPA := Lib.hid hA
              have HPS := Lib.hid hS
              have HPE := Lib.hid hE
              clear hA hS hE
              go_wp2_with fail
              refine (Pt.Place_any 0 G m k _).mono ?_
              rintro e w5 ⟨rfl, b5⟩
              rw [HPA.out, HPS.out, HPE.out]
              have HST := Lib.hid (HST.out.below b5)
              clear b5
              go_wp2_with fail
              refine (marks_any gs N N A S (fun i => ix0 j (m - 1) (k - 1) i) (fun i p => decide (rk0 p < num j (m - 1) (k - 1) i)) _ Nb.2 bA bS HST.out.s (fun i hi => ?_)).mono ?_
              · have h := BK.out i hi
                rw [HGe.out, HPA.out, HPS.out, ← HN.out] at h
                exact h
              rintro e w6 ⟨rfl, hs6, g6⟩
              have HST2 := Lib.hid ((HST.out.marked g6 hs6).at (T' := num j (m - 1) k 0) (by unfold num; omega))
              clear hs6 g6
              go_wp2_with fail
              go_roundw
              case rel => exact ⟨k + 1, by omega, by omega, by go_num, HST2.out⟩
              case measure => simp [intOf]; omega
            · have dk : decide ((k : Int) ≤ 6) = false := decide_eq_false (by omega)
              have HST2 := Lib.hid (HST.out.at (T' := num j m 0 0) (by unfold num; omega))
              have hk' : (7 : Int) ≤ (k : Int) := by omega
              go_wp2_with fail
              go_roundw
              case rel => exact ⟨m + 1, by omega, by omega, by go_num, HST2.out⟩
              case measure => simp [intOf]; omega
        · have dm : decide ((m : Int) ≤ 33) = false := decide_eq_false (by omega)
          have HST2 := Lib.hid (HST.out.at (T' := num (j + 1) 0 0 0) (by unfold num; omega))
          have hm' : (34 : Int) ≤ (m : Int) := by omega
          have hpv : Hid (prev 0 (j + 1) = G) := Lib.hid HGe.out
          go_wp2_with fail
          go_roundw
          case rel => exact ⟨j + 1, by omega, by rw [hpv.out], by go_num, HST2.out⟩
          case measure => simp [intOf]; omega
    · have dj : decide ((j : Int) < 3) = false := decide_eq_false (by omega)
      have hj' : (3 : Int) ≤ (j : Int) := by omega
      obtain ⟨P, hP⟩ : ∃ P, prev 0 j = P := ⟨_, rfl⟩
      have hlast := nx_last0
      rw [show (3 : Nat) = j by omega, hP] at hlast
      have NL := Lib.hid hlast
      have HS : Hid (BArr wr gs N (fun _ => true)) := Lib.hid (HST.out.s.congr (fun p hp => decide_eq_true (by
        have h := rk_lt0 (p := p) (by have := HN.out; omega)
        have e : num j 0 0 0 = num 3 0 0 0 := by rw [show j = 3 by omega]
        rw [e]; exact h)))
      have HB := Lib.hid HST.out.b
      rw [hP]
      clear HST hP hlast
      go_wp2_with fail
      go_loopw [21] (fun i wx => ∃ q : Nat, q ≤ N ∧ i = .int .i64 q ∧ wx = wr) (fun i _ => N - (intOf i).toNat)
      case atStart => exact ⟨0, by omega, rfl, rfl⟩
      case round =>
        obtain ⟨q, hq, rfl, hw⟩ := hrel
        have hw' := hw.symm
        subst hw'
        by_cases hqN : q < N
        · have cq := (HS.out q hqN).1
          have qb : (0 : Int) ≤ (q : Int) ∧ (q : Int) < (N : Int) := by omega
          have dq : decide ((q : Int) < (N : Int)) = true := decide_eq_true (by omega)
          go_wp2_with fail
          go_roundw
          case rel => exact ⟨q + 1, by omega, by go_num, by trivial⟩
          case measure => simp [intOf]; omega
        · have hq' : (N : Int) ≤ (q : Int) := by omega
          have dq : decide ((q : Int) < (N : Int)) = false := decide_eq_false (by omega)
          go_wp2_with fail
          refine (next_lit 0 P 0 0 _ NL.out).mono ?_
          rintro e w7 ⟨rfl, b7⟩
          have HB := Lib.hid (chain HB.out b7)
          clear b7
          go_wp2_with fail
          go_ret
          exact ⟨rfl, HB.out⟩
theorem nx_of1 : ∀ j, j < 12 → Nx.nV 1 (prev 1 j) = grF 1 j ∧ Nx.nEr 1 (prev 1 j) = 0 := by decide +kernel
theorem nx_last1 : Nx.nV 1 (prev 1 12) = 0 ∧ Nx.nEr 1 (prev 1 12) = 0 := by decide +kernel
theorem blk1 (j m k : Nat) (hj : j < 12) (hm : 1 ≤ m ∧ m ≤ 33) (hk : 1 ≤ k ∧ k ≤ 6) (i : Nat) (hi : i < 64) :
    (ix1 j (m - 1) (k - 1) i : Int) = Pt.pA 1 (grF 1 j) m k + (i : Int) / 8 * Pt.pS 1 (grF 1 j) m k + (i : Int) % 8 ∧ ix1 j (m - 1) (k - 1) i < 152064 ∧ decide (rk1 (ix1 j (m - 1) (k - 1) i) < num j (m - 1) (k - 1) i) = false ∧
    ∀ p, p < 152064 → decide (rk1 p < num j (m - 1) (k - 1) (i + 1)) = (decide (p = ix1 j (m - 1) (k - 1) i) || decide (rk1 p < num j (m - 1) (k - 1) i)) := by
  have hp := pl_row 1 (grF 1 j) m k (by decide) (ing_of 1 j hj) (by omega) (by omega)
  refine ⟨?_, (ix_parts1 hj (by omega) (by omega) hi).1, ?_, fun p hp => rk_step1 hj (by omega) (by omega) hi hp⟩
  · rw [hp.1, hp.2.1]; exact ix_pl1 j m k i hj hm hk
  · rw [rk_ix1 hj (by omega) (by omega) hi]; exact decide_eq_false (Nat.lt_irrefl _)
theorem pl_bd1 (j m k : Nat) (hj : j < 12) (hm : 1 ≤ m ∧ m ≤ 33) (hk : 1 ≤ k ∧ k ≤ 6) : (0 ≤ Pt.pA 1 (grF 1 j) m k ∧ Pt.pA 1 (grF 1 j) m k ≤ 200000) ∧ (0 ≤ Pt.pS 1 (grF 1 j) m k ∧ Pt.pS 1 (grF 1 j) m k ≤ 1000) ∧ Pt.pE 1 (grF 1 j) m k = 0 := by
  have hp := pl_row 1 (grF 1 j) m k (by decide) (ing_of 1 j hj) (by omega) (by omega)
  have h := blk1 j m k hj hm hk 0 (by decide)
  have h1 := h.1
  have h2 := h.2.1
  simp at h1
  refine ⟨⟨by omega, by omega⟩, ?_, hp.2.2⟩
  rw [hp.2.1]; unfold Pt.bS; rw [show wV 1 = 352 from rfl]; split <;> omega

set_option maxRecDepth 100000 in
set_option maxHeartbeats 2000000 in
theorem FrameWhole_1 (w : World) : Calls Try.prog 6 #[.bool true] w fun e w' => e = .returned (.bool true) ∧ Below w.heap.size w w' := by
  obtain ⟨i0, hi, hz0, hz1, hz2⟩ := info_parts info_bool
  obtain ⟨N, hN⟩ : ∃ N : Nat, N = 152064 := ⟨_, rfl⟩
  have HN := Lib.hid hN
  have Nb : 0 < N ∧ N ≤ 200000 := by omega
  have kn1 : decide ((N : Int) < 1) = false := decide_eq_false (by omega)
  have kn2 : decide (200000 < (N : Int)) = false := decide_eq_false (by omega)
  have ZE : Hid (zV 1 = (N : Int)) := Lib.hid (by rw [hN]; rfl)
  clear hN
  go_enter Try.func6, Try.ntmps6
  go_wp2_with fail
  refine (FrameKnown_any _).mono ?_
  rintro e w1 ⟨rfl, b1⟩
  have HB := Lib.hid b1
  clear b1
  go_wp2_with fail
  refine (Size_any 1 _).mono ?_
  rintro e w2 ⟨rfl, rfl⟩
  rw [show wV 1 = 352 from rfl, show hV 1 = 288 from rfl, show fE 1 = 0 from rfl, ZE.out]
  go_wp2_with fail
  refine (Groups_any 1 _).mono ?_
  rintro e w2 ⟨v, rfl, hR, b2⟩
  rw [show fE 1 = 0 from rfl]
  rcases hR with ⟨h0, _⟩ | ⟨gg, c, rfl, h1, h2, h3, h4, hA⟩
  · exact absurd h0 (by decide)
  have HA := Lib.hid (show Arr w2 .i64 gg 12 (grF 1) from hA)
  have HB := Lib.hid (chain HB.out b2)
  rw [show grN 1 = 12 from rfl]
  clear hA b2 h1 h3 h4
  go_wp2_with (refine wpList_make_full w2 rfl _ _ 42 rfl w2.heap.size 4 i0 (.bool false) 1 Try.underlying42 hi hz0 hz1 .i64 .i64 _ _ N rfl rfl rfl rfl (by rw [hz2]; omega) (by unfold maxLen; omega) (Nat.le_refl _) ?_; intro w3 hown hgr; have HS := Lib.hid (made_barr hown); have HG := Lib.hid hgr; clear hown hgr)
  have HST : Hid (St 12 (grF 1) rk1 w w3 gg w2.heap.size N (num 0 0 0 0)) := Lib.hid ⟨HA.out.below ((Below.refl w2.heap.size w2).grown HG.out (Nat.le_refl _) (fun _ e => by cases e)) h2, HS.out.congr (fun i _ => (decide_eq_false (by unfold num; omega)).symm), HB.out.grown HG.out HB.out.size (fun _ e => by cases e), by omega, HB.out.size, by decide, Nb.1⟩
  obtain ⟨gs, hgs⟩ : ∃ gs, w2.heap.size = gs := ⟨_, rfl⟩
  rw [hgs] at HST ⊢
  clear HA HB HS HG h2 hi hz0 hz1 hz2 hgs
  go_loopw [12, 13] (fun grp i wr => ∃ j : Nat, j ≤ 12 ∧ grp = .int .i64 (prev 1 j) ∧ i = .int .i64 j ∧ St 12 (grF 1) rk1 w wr gg gs N (num j 0 0 0)) (fun _ i _ => 12 - (intOf i).toNat)
  case atStart => exact ⟨0, by omega, rfl, rfl, HST.out⟩
  case round =>
    clear HST
    obtain ⟨j, hj, rfl, rfl, hst⟩ := hrel
    have HST := Lib.hid hst
    clear hst
    by_cases hjN : j < 12
    · obtain ⟨P, hP⟩ : ∃ P, prev 1 j = P := ⟨_, rfl⟩
      have hnx := nx_of1 j hjN
      rw [hP] at hnx
      have NX := Lib.hid hnx
      obtain ⟨G, hG⟩ : ∃ G, grF 1 j = G := ⟨_, rfl⟩
      have HGe := Lib.hid hG
      have cj := (HST.out.l j hjN).1
      rw [hG] at cj
      have jb : (0 : Int) ≤ (j : Int) ∧ (j : Int) < 12 := by omega
      have dj : decide ((j : Int) < 12) = true := decide_eq_true (by omega)
      rw [hP]
      clear hP hG hnx cj
      go_wp2_with fail
      refine (Nx.Next_any 1 P _).mono ?_
      rintro e w4 ⟨rfl, b4⟩
      rw [NX.out.1, NX.out.2, HGe.out]
      have HST := Lib.hid (HST.out.below b4)
      have cj := (HST.out.l j hjN).1
      rw [HGe.out] at cj
      have t1 : (G != G) = false := by simp
      clear b4
      go_wp2_with fail
      clear cj
      go_loopw [16] (fun i wr => ∃ m : Nat, 1 ≤ m ∧ m ≤ 34 ∧ i = .int .i64 m ∧ St 12 (grF 1) rk1 w wr gg gs N (num j (m - 1) 0 0)) (fun i _ => 34 - (intOf i).toNat)
      case atStart => exact ⟨1, by omega, by omega, rfl, HST.out⟩
      case round =>
        clear HST
        obtain ⟨m, hm1, hm, rfl, hst⟩ := hrel
        have HST := Lib.hid hst
        clear hst
        by_cases hm3 : m ≤ 33
        · have dm : decide ((m : Int) ≤ 33) = true := decide_eq_true (by omega)
          have mb : (1 : Int) ≤ (m : Int) ∧ (m : Int) ≤ 33 := by omega
          go_wp2_with fail
          go_loopw [17] (fun i wr => ∃ k : Nat, 1 ≤ k ∧ k ≤ 7 ∧ i = .int .i64 k ∧ St 12 (grF 1) rk1 w wr gg gs N (num j (m - 1) (k - 1) 0)) (fun i _ => 7 - (intOf i).toNat)
          case atStart => exact ⟨1, by omega, by omega, rfl, HST.out⟩
          case round =>
            clear HST
            obtain ⟨k, hk1, hk, rfl, hst⟩ := hrel
            have HST := Lib.hid hst
            clear hst
            by_cases hk6 : k ≤ 6
            · have dk : decide ((k : Int) ≤ 6) = true := decide_eq_true (by omega)
              have BK := Lib.hid (fun i hi => blk1 j m k hjN ⟨hm1, hm3⟩ ⟨hk1, hk6⟩ i hi)
              have BD := pl_bd1 j m k hjN ⟨hm1, hm3⟩ ⟨hk1, hk6⟩
              rw [HGe.out] at BD
              obtain ⟨A, hA⟩ : ∃ A, Pt.pA 1 G m k = A := ⟨_, rfl⟩
              obtain ⟨S, hS⟩ : ∃ S, Pt.pS 1 G m k = S := ⟨_, rfl⟩
              rw [hA, hS] at BD
              obtain ⟨bA, bS, hE⟩ := BD
              have HPA := Lib.hid hA
              have HPS := Lib.hid hS
              have HPE := Lib.hid hE
              clear hA hS hE
              go_wp2_with fail
              refine (Pt.Place_any 1 G m k _).mono ?_
              rintro e w5 ⟨rfl, b5⟩
              rw [HPA.out, HPS.out, HPE.out]
              have HST := Lib.hid (HST.out.below b5)
              clear b5
              go_wp2_with fail
              refine (marks_any gs N N A S (fun i => ix1 j (m - 1) (k - 1) i) (fun i p => decide (rk1 p < num j (m - 1) (k - 1) i)) _ Nb.2 bA bS HST.out.s (fun i hi => ?_)).mono ?_
              · have h := BK.out i hi
                rw [HGe.out, HPA.out, HPS.out, ← HN.out] at h
                exact h
              rintro e w6 ⟨rfl, hs6, g6⟩
              have HST2 := Lib.hid ((HST.out.marked g6 hs6).at (T' := num j (m - 1) k 0) (by unfold num; omega))
              clear hs6 g6
              go_wp2_with fail
              go_roundw
              case rel => exact ⟨k + 1, by omega, by omega, by go_num, HST2.out⟩
              case measure => simp [intOf]; omega
            · have dk : decide ((k : Int) ≤ 6) = false := decide_eq_false (by omega)
              have HST2 := Lib.hid (HST.out.at (T' := num j m 0 0) (by unfold num; omega))
              have hk' : (7 : Int) ≤ (k : Int) := by omega
              go_wp2_with fail
              go_roundw
              case rel => exact ⟨m + 1, by omega, by omega, by go_num, HST2.out⟩
              case measure => simp [intOf]; omega
        · have dm : decide ((m : Int) ≤ 33) = false := decide_eq_false (by omega)
          have HST2 := Lib.hid (HST.out.at (T' := num (j + 1) 0 0 0) (by unfold num; omega))
          have hm' : (34 : Int) ≤ (m : Int) := by omega
          have hpv : Hid (prev 1 (j + 1) = G) := Lib.hid HGe.out
          go_wp2_with fail
          go_roundw
          case rel => exact ⟨j + 1, by omega, by rw [hpv.out], by go_num, HST2.out⟩
          case measure => simp [intOf]; omega
    · have dj : decide ((j : Int) < 12) = false := decide_eq_false (by omega)
      have hj' : (12 : Int) ≤ (j : Int) := by omega
      obtain ⟨P, hP⟩ : ∃ P, prev 1 j = P := ⟨_, rfl⟩
      have hlast := nx_last1
      rw [show (12 : Nat) = j by omega, hP] at hlast
      have NL := Lib.hid hlast
      have HS : Hid (BArr wr gs N (fun _ => true)) := Lib.hid (HST.out.s.congr (fun p hp => decide_eq_true (by
        have h := rk_lt1 (p := p) (by have := HN.out; omega)
        have e : num j 0 0 0 = num 12 0 0 0 := by rw [show j = 12 by omega]
        rw [e]; exact h)))
      have HB := Lib.hid HST.out.b
      rw [hP]
      clear HST hP hlast
      go_wp2_with fail
      go_loopw [21] (fun i wx => ∃ q : Nat, q ≤ N ∧ i = .int .i64 q ∧ wx = wr) (fun i _ => N - (intOf i).toNat)
      case atStart => exact ⟨0, by omega, rfl, rfl⟩
      case round =>
        obtain ⟨q, hq, rfl, hw⟩ := hrel
        have hw' := hw.symm
        subst hw'
        by_cases hqN : q < N
        · have cq := (HS.out q hqN).1
          have qb : (0 : Int) ≤ (q : Int) ∧ (q : Int) < (N : Int) := by omega
          have dq : decide ((q : Int) < (N : Int)) = true := decide_eq_true (by omega)
          go_wp2_with fail
          go_roundw
          case rel => exact ⟨q + 1, by omega, by go_num, by trivial⟩
          case measure => simp [intOf]; omega
        · have hq' : (N : Int) ≤ (q : Int) := by omega
          have dq : decide ((q : Int) < (N : Int)) = false := decide_eq_false (by omega)
          go_wp2_with fail
          refine (next_lit 1 P 0 0 _ NL.out).mono ?_
          rintro e w7 ⟨rfl, b7⟩
          have HB := Lib.hid (chain HB.out b7)
          clear b7
          go_wp2_with fail
          go_ret
          exact ⟨rfl, HB.out⟩
theorem FrameWhole_any (b : Bool) (w : World) : Calls Try.prog 6 #[.bool b] w fun e w' => e = .returned (.bool true) ∧ Below w.heap.size w w' := by
  cases b
  · exact FrameWhole_0 w
  · exact FrameWhole_1 w
end Wh
end Go.Proofs.Ytgcmdgolkidemaa
