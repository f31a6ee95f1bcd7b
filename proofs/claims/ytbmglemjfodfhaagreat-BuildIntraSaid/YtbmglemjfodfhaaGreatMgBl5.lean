/- BuildOnly. -/
import Derived.Test.YtbmglemjfodfhaaGreatMgBl3
import Derived.Test.YtbmglemjfodfhaaGreatMgMIn
set_option linter.unusedVariables false
set_option linter.unusedSimpArgs false

namespace Go.Proofs.YtbmglemjfodfhaaGreat
open Go.RowKit
namespace Bl
open Bk Fr Pt Kd Bu

/-- no list is too long. -/
def Short (M : MB) : Prop := M.m ≤ 8 ∧ ∀ j, j < M.m → M.nn j ≤ 70
theorem Short.at {M : MB} {w : World} {v : Value} (hs : Short M) (h : MB.raw M w v) : M.at w v := h.fit (fun j hj => Nat.le_trans (hs.2 j hj) (by omega))
def LongR (M : MB) (w : World) (e : Ending) (w' : World) : Prop := ∃ b : Bool, e = .returned (.bool b) ∧ (b = false → Short M) ∧ Below w.heap.size w w'
set_option maxRecDepth 100000 in
set_option maxHeartbeats 2000000 in
theorem LongMacro_any (M : MB) (vb : Value) (w : World) (h : MB.raw M w vb) :
    Calls Tryz.prog 11 #[mv M vb] w (LongR M w) := by
  have HB := Lib.hid ((Below.refl w.heap.size w).alloc (Nat.le_refl _) (.cells #[.int .i64 M.ad, .int .i64 M.kd, .int .i64 M.qt, .int .i64 M.x, .int .i64 M.y, .int .i64 M.pt, vb] 24))
  have H1 : Hid (At _ _ _ _) := Lib.hid (At.new w #[.int .i64 M.ad, .int .i64 M.kd, .int .i64 M.qt, .int .i64 M.x, .int .i64 M.y, .int .i64 M.pt, vb] 24)
  have HR := Lib.hid (h.below HB.out)
  clear h
  obtain ⟨a, c, hv, h1, h2, h3⟩ := HR.out
  subst hv
  have H3 := Lib.hid h3
  have c6 := H1.out.cell 6 _ rfl
  clear HR h3
  go_enter Tryz.func11, Tryz.ntmps11
  go_wp2_with fail
  generalize w.alloc (.cells #[.int .i64 M.ad, .int .i64 M.kd, .int .i64 M.qt, .int .i64 M.x, .int .i64 M.y, .int .i64 M.pt, .slice a M.m c] 24) = W1 at *
  go_loopw [3] (fun x wr => ∃ k : Nat, k ≤ M.m ∧ k ≤ 9 ∧ x = .int .i64 k ∧ wr = W1 ∧ Hid (∀ j, j < k → M.nn j ≤ 70)) (fun x _ => 9 - (intOf x).toNat)
  case atStart => exact ⟨0, by omega, by omega, rfl, rfl, Lib.hid (fun j hj => by omega)⟩
  case round =>
    obtain ⟨k, hk, hk9, rfl, rfl, HK⟩ := hrel
    by_cases hkm : k < M.m
    · by_cases hk8 : k < 9
      · have kb : (0 : Int) ≤ (k : Int) ∧ (k : Int) < (M.m : Int) ∧ (k : Int) < 9 := by omega
        rcases H3.out with h0 | ⟨b, o, rfl, hI⟩
        · omega
        obtain ⟨_, d2, _⟩ := hI k hkm
        by_cases h70 : M.nn k ≤ 70
        · have t1 : ¬ (70 : Int) < (M.nn k : Int) := by omega
          clear hI
          go_wp2_with fail
          go_roundw
          case rel => exact ⟨k + 1, by omega, by omega, by go_num, trivial, Lib.hid (fun j hj => by
            by_cases e : j = k
            · rw [e]; exact h70
            · exact HK.out j (by omega))⟩
          case measure => simp [intOf]; omega
        · have t1 : (70 : Int) < (M.nn k : Int) := by omega
          clear hI
          go_wp2_with fail
          go_ret
          exact ⟨true, rfl, (fun h => absurd h (by decide)), HB.out⟩
      · have t1 : ¬ (k : Int) < 9 := by omega
        have t2 : (k : Int) < (M.m : Int) := by omega
        have t3 : (8 : Int) < (M.m : Int) := by omega
        go_wp2_with fail
        go_ret
        exact ⟨true, rfl, (fun h => absurd h (by decide)), HB.out⟩
    · have e : k = M.m := by omega
      have t2 : ¬ (k : Int) < (M.m : Int) := by omega
      by_cases h8 : M.m ≤ 8
      · have t3 : ¬ (8 : Int) < (M.m : Int) := by omega
        have HS : Hid (Short M) := Lib.hid ⟨h8, fun j hj => HK.out j (by omega)⟩
        go_wp2_with fail
        go_ret
        exact ⟨false, rfl, fun _ => HS.out, HB.out⟩
      · have t3 : (8 : Int) < (M.m : Int) := by omega
        go_wp2_with fail
        go_ret
        exact ⟨true, rfl, (fun h => absurd h (by decide)), HB.out⟩
/-- the spot of a macroblock's own address. -/
theorem spotted_any (fo gr : Int) (M : MB) (vb : Value) (w : World) (ha : 1 ≤ M.ad ∧ M.ad ≤ 33) :
    Calls Tryz.prog 12 #[.int .i64 fo, .int .i64 gr, mv M vb] w fun e w' => e = .returned (sp (fo % 2) (if fo % 2 = 0 then 1 + 2 * (gr % 3) else 1 + gr % 12) M.ad) ∧ Below w.heap.size w w' := by
  have SP := Lib.hid (fun V => Mo.Spot_any fo gr (M.ad - 1) V)
  have e1 : 1 + (M.ad - 1) % 33 = M.ad := by omega
  rw [e1] at SP
  have e2 : IntKind.i64.wrap (M.ad - 1) = M.ad - 1 := IntWalk.i64_in _ (by omega)
  obtain ⟨g, hg⟩ : ∃ g, (if fo % 2 = 0 then 1 + 2 * (gr % 3) else 1 + gr % 12) = g := ⟨_, rfl⟩
  obtain ⟨n, hn⟩ : ∃ n, fo % 2 = n := ⟨_, rfl⟩
  rw [hg] at SP ⊢
  rw [hn] at SP ⊢
  clear hg hn e1 ha
  have HB := Lib.hid (((Below.refl w.heap.size w).alloc (Nat.le_refl _) (.cells #[.int .i64 M.ad, .int .i64 M.kd, .int .i64 M.qt, .int .i64 M.x, .int .i64 M.y, .int .i64 M.pt, vb] 24)).alloc (by simp) (.cells #[.int .i64 0, .int .i64 0, .int .i64 0] 28))
  have H0 : Hid (At _ _ _ _) := Lib.hid ((At.new w #[.int .i64 M.ad, .int .i64 M.kd, .int .i64 M.qt, .int .i64 M.x, .int .i64 M.y, .int .i64 M.pt, vb] 24).below ((Below.refl _ _).alloc (Nat.le_refl _) (.cells #[.int .i64 0, .int .i64 0, .int .i64 0] 28)))
  have H1 : Hid (At _ _ _ _) := Lib.hid (At.new (w.alloc (.cells #[.int .i64 M.ad, .int .i64 M.kd, .int .i64 M.qt, .int .i64 M.x, .int .i64 M.y, .int .i64 M.pt, vb] 24)) #[.int .i64 0, .int .i64 0, .int .i64 0] 28)
  simp only [World.size_alloc] at H1
  have c0 := H0.out.cell 0 _ rfl
  go_enter Tryz.func12, Tryz.ntmps12
  go_wp2_with (go_at_call 29; refine (SP.out _).mono ?_; rintro e w1 ⟨rfl, b1⟩; have H1 := Lib.hid (H1.out.below b1); have HB := Lib.hid (chain HB.out b1); clear b1 c0 H0; have d0 := H1.out.cell 0 _ rfl; have d1 := H1.out.cell 1 _ rfl; have d2 := H1.out.cell 2 _ rfl; have f0 : w1.frozen? ⟨w.heap.size + 1, 0, none⟩ = false := frozen_of_row H1.out 0; have f1 : w1.frozen? ⟨w.heap.size + 1, 1, none⟩ = false := frozen_of_row H1.out 1; have f2 : w1.frozen? ⟨w.heap.size + 1, 2, none⟩ = false := frozen_of_row H1.out 2)
  have hA := ob_set (ob_set (ob_set H1.out 0 (.int .i64 n)) 1 (.int .i64 g)) 2 (.int .i64 M.ad)
  have hB := grown_set (grown_set (Kd.grown_cell w1 (w.heap.size + 1) 0 (.int .i64 n)) 1 (.int .i64 g)) 2 (.int .i64 M.ad)
  refine bodyPost_ret (results_cell_row rfl _ _ (w.heap.size + 1) _ _ _ _ rfl hA Tryz.underlying28 rfl (by kernel_rfl)) rfl ?_
  exact ⟨rfl, HB.out.grown hB HB.out.size (fun q e => by have := Option.some.inj e; omega)⟩
theorem smE_own {M : MB} {n g : Int} {N : Nat} (q : Int) (hc : cE n g M.ad = 0) (hN : (N : Int) = zV n) : macE M n g M.ad N N q = smE M n g M.ad N q := by
  unfold macE
  rw [if_neg (by omega), if_neg (by omega)]
/-- the worlds of BuildOnly. -/
structure OC where
  (M : MB) (vb : Value) (n g : Int) (mB spB gx gf gw cw N : Nat) (F f0 : Nat → Int)
structure OC.ok (c : OC) (W : World) : Prop where
  b : W.heap.size ≤ c.mB ∧ W.heap.size ≤ c.spB ∧ W.heap.size ≤ c.gx ∧ W.heap.size ≤ c.gf ∧ W.heap.size ≤ c.gw
  d : c.mB ≠ c.gx ∧ c.spB ≠ c.gx ∧ c.gf ≠ c.gx ∧ c.gw ≠ c.gx ∧ c.mB ≠ c.gw ∧ c.spB ≠ c.gw ∧ c.gf ≠ c.gw
  cap : c.N ≤ c.cw ∧ c.cw ≤ maxLen ∧ c.N ≤ maxLen
  hc : cE c.n c.g c.M.ad = 0
  N : (c.N : Int) = zV c.n
  n0 : 0 < c.N
  bd : ∀ i, 0 ≤ c.F i ∧ c.F i ≤ 255
structure OK (c : OC) (W w : World) (fx fw : Nat → Int) : Prop where
  mac : At w c.mB #[.int .i64 c.M.ad, .int .i64 c.M.kd, .int .i64 c.M.qt, .int .i64 c.M.x, .int .i64 c.M.y, .int .i64 c.M.pt, c.vb] 24
  spot : At w c.spB #[.int .i64 c.n, .int .i64 c.g, .int .i64 c.M.ad] 28
  x : Arr w .u8 c.gx c.N fx
  frm : Arr w .u8 c.gf c.N c.F
  was : Arr w .u8 c.gw c.N fw
  bel : Below W.heap.size W w
section
variable {c : OC} {W w : World} {fx fw : Nat → Int}
theorem OK.below {w' : World} (h : OK c W w fx fw) (ok : c.ok W) (hb : Below w.heap.size w w') : OK c W w' fx fw :=
  ⟨h.mac.below hb, h.spot.below hb, h.x.below hb (h.x.lt ok.n0), h.frm.below hb (h.frm.lt ok.n0), h.was.below hb (h.was.lt ok.n0), chain h.bel hb⟩
theorem OK.toX {w' : World} {f : Nat → Int} (h : OK c W w fx fw) (ok : c.ok W) (hA : Arr w' .u8 c.gx c.N f) (hg : w.grownBy w' (some c.gx)) : OK c W w' f fw := by
  obtain ⟨d1, d2, d3, d4, d5, d6, d7⟩ := ok.d
  obtain ⟨b1, b2, b3, b4, b5⟩ := ok.b
  exact ⟨h.mac.kept hg (fun e => d1 (Option.some.inj e)), h.spot.kept hg (fun e => d2 (Option.some.inj e)), hA, h.frm.grown hg (fun e => d3 (Option.some.inj e)), h.was.grown hg (fun e => d4 (Option.some.inj e)), h.bel.grown hg h.bel.size (fun q e => by have := Option.some.inj e; omega)⟩
theorem OK.toW {w' : World} {f : Nat → Int} (h : OK c W w fx fw) (ok : c.ok W) (hA : Arr w' .u8 c.gw c.N f) (hg : w.grownBy w' (some c.gw)) : OK c W w' fx f := by
  obtain ⟨d1, d2, d3, d4, d5, d6, d7⟩ := ok.d
  obtain ⟨b1, b2, b3, b4, b5⟩ := ok.b
  exact ⟨h.mac.kept hg (fun e => d5 (Option.some.inj e)), h.spot.kept hg (fun e => d6 (Option.some.inj e)), h.x.grown hg (fun e => d4 (Option.some.inj e).symm), h.frm.grown hg (fun e => d7 (Option.some.inj e)), hA, h.bel.grown hg h.bel.size (fun q e => by have := Option.some.inj e; omega)⟩
theorem OK.macro (h : OK c W w fx fw) (ok : c.ok W) (hM : c.M.at W c.vb) (q : Int) :
    Calls Tryz.prog 16 #[.slice (some ⟨c.gx, 0, none⟩) c.N c.N, .slice (some ⟨c.gf, 0, none⟩) c.N c.N, sp c.n c.g c.M.ad, mv c.M c.vb, .int .i64 q] w fun e w' => e = .returned (.int .i64 (smE c.M c.n c.g c.M.ad c.N q)) ∧ OK c W w' (macF c.M c.n c.g c.M.ad c.N c.N q c.F fx) fw ∧ w.grownBy w' (some c.gx) := by
  have := Macro_any c.M c.vb c.gx c.N c.N c.N (some ⟨c.gf, 0, none⟩) c.N c.N fx c.F c.n c.g c.M.ad q w h.x (Nat.le_refl _) (Nat.le_refl _) ok.n0 (arr_part h.frm ok.n0 (Nat.le_refl _) ok.cap.2.2) ok.bd (hM.below h.bel)
  rw [smE_own q ok.hc ok.N] at this
  exact this.mono fun e w' h1 => ⟨h1.1, h.toX ok h1.2.1 h1.2.2, h1.2.2⟩
theorem OK.samples (h : OK c W w fx fw) (ok : c.ok W) (hM : c.M.at W c.vb) (q : Int) :
    Calls Tryz.prog 15 #[.slice (some ⟨c.gf, 0, none⟩) c.N c.N, sp c.n c.g c.M.ad, mv c.M c.vb, .int .i64 q] w fun e w' => ∃ v, e = .returned (.tuple #[v, .int .i64 (smE c.M c.n c.g c.M.ad c.N q)]) ∧ (smE c.M c.n c.g c.M.ad c.N q = 0 → Six w.heap.size w' v (smp c.M c.n c.g c.M.ad (aF c.N c.F) q)) ∧ (smE c.M c.n c.g c.M.ad c.N q ≠ 0 → v = .slice none 0 0) ∧ OK c W w' fx fw ∧ Below w.heap.size w w' := by
  refine (Samples_any c.M c.vb (some ⟨c.gf, 0, none⟩) c.N c.N c.F c.n c.g c.M.ad q w (arr_part h.frm ok.n0 (Nat.le_refl _) ok.cap.2.2) ok.bd (hM.below h.bel)).mono ?_
  rintro e w' ⟨v, h1, h2, h3, h4⟩
  exact ⟨v, h1, h2, h3, h.below ok h4, h4⟩
theorem OK.lay (h : OK c W w fx fw) (ok : c.ok W) (k rg rc : Nat) (s : Nat → Int) (hk : k < 6) (h2 : Sl .u8 w (.slice (some ⟨rg, 0, none⟩) 64 rc) 64 s) (hne : c.gw ≠ rg) :
    Calls Tryz.prog 18 #[.slice (some ⟨c.gw, 0, none⟩) c.N c.cw, .agg #[.int .i64 c.n, .int .i64 c.g, .int .i64 c.M.ad], .int .i64 ((k : Int) + 1), .slice (some ⟨rg, 0, none⟩) 64 rc] w fun e w' => e = .returned (.int .i64 0) ∧ OK c W w' fx (Pa.layN (pA c.n c.g c.M.ad ((k : Int) + 1)).toNat (pS c.n c.g c.M.ad ((k : Int) + 1)).toNat s fw 64) ∧ w.grownBy w' (some c.gw) := by
  have e0 := Pa.layE_ok (k := (k : Int) + 1) ok.hc ok.N (rfl : (64 : Nat) = 64) (by omega)
  have := Pa.Lay_any c.gw c.N c.N c.cw (some ⟨rg, 0, none⟩) 64 rc fw s c.n c.g c.M.ad ((k : Int) + 1) w h.was (Nat.le_refl _) ok.cap.1 ok.n0 h2 (fun _ x e => by cases e; exact fun e => hne e.symm)
  rw [e0] at this
  refine this.mono ?_
  rintro e w' ⟨h4, h5, h6⟩
  unfold Pa.layG at h5
  rw [if_pos e0] at h5
  exact ⟨h4, h.toW ok h5 h6, h6⟩
end
theorem Six.far {B : Nat} {w w' : World} {v : Value} {S : Nat → Nat → Int} {b : Nat} (h : Six B w v S) (hg : w.grownBy w' (some b)) (hb : b < B) : Six B w' v S := h.kept hg hb
set_option maxRecDepth 100000 in
set_option maxHeartbeats 4000000 in
theorem BuildOnly_any (fo gr : Int) (M : MB) (vb : Value) (qu sa sb : Int) (w : World) (_ : (Lit.int .i64 fo).wf = true) (_ : (Lit.int .i64 gr).wf = true) (hM0 : MB.raw M w vb) (_ : (Lit.int .i64 qu).wf = true) (_ : (Lit.int .i64 sa).wf = true) (_ : (Lit.int .i64 sb).wf = true) :
    Calls Tryz.prog 3 #[.int .i64 fo, .int .i64 gr, mv M vb, .int .i64 qu, .int .i64 sa, .int .i64 sb] w fun e w' => e = .returned (.bool true) ∧ Below w.heap.size w w' := by
  have HM0 := Lib.hid hM0
  clear hM0
  have HB := Lib.hid ((Below.refl w.heap.size w).alloc (Nat.le_refl _) (.cells #[.int .i64 M.ad, .int .i64 M.kd, .int .i64 M.qt, .int .i64 M.x, .int .i64 M.y, .int .i64 M.pt, vb] 24))
  have H8 : Hid (At _ _ _ _) := Lib.hid (At.new w #[.int .i64 M.ad, .int .i64 M.kd, .int .i64 M.qt, .int .i64 M.x, .int .i64 M.y, .int .i64 M.pt, vb] 24)
  go_enter Tryz.func3, Tryz.ntmps3
  go_wp2_with fail
  refine (awake_any _).mono ?_
  rintro e v1 ⟨rfl, h1⟩
  have HB := Lib.hid (chain HB.out h1)
  have H8 := Lib.hid (H8.out.below h1)
  clear h1
  have m0 := H8.out.cell 0 _ rfl
  have m1 := H8.out.cell 1 _ rfl
  have m2 := H8.out.cell 2 _ rfl
  have m3 := H8.out.cell 3 _ rfl
  have m4 := H8.out.cell 4 _ rfl
  have m5 := H8.out.cell 5 _ rfl
  have m6 := H8.out.cell 6 _ rfl
  go_wp2_with fail
  refine (LongMacro_any M vb _ (HM0.out.below HB.out)).mono ?_
  rintro e v2 ⟨bl, rfl, hsh, h1⟩
  have HB := Lib.hid (chain HB.out h1)
  have H8 := Lib.hid (H8.out.below h1)
  have HSH := Lib.hid hsh
  clear h1 m0 m1 m2 m3 m4 m5 m6 hsh
  have m0 := H8.out.cell 0 _ rfl
  cases bl with
  | true =>
    go_wp2_with fail
    go_ret
    exact ⟨rfl, HB.out⟩
  | false =>
  by_cases ha1 : M.ad < 1
  · go_wp2_with fail
    go_ret
    exact ⟨rfl, HB.out⟩
  by_cases ha2 : 33 < M.ad
  · go_wp2_with fail
    go_ret
    exact ⟨rfl, HB.out⟩
  have HAD : Hid (1 ≤ M.ad ∧ M.ad ≤ 33) := Lib.hid (by omega)
  have HM : Hid (M.at w vb) := Lib.hid ((HSH.out rfl).at HM0.out)
  have hc0 := spot_ok fo gr (M.ad - 1)
  rw [show 1 + (M.ad - 1) % 33 = M.ad by omega] at hc0
  have SP := Lib.hid (fun V => spotted_any fo gr M vb V HAD.out)
  obtain ⟨g, hg⟩ : ∃ g, (if fo % 2 = 0 then 1 + 2 * (gr % 3) else 1 + gr % 12) = g := ⟨_, rfl⟩
  obtain ⟨n, hn⟩ : ∃ n, fo % 2 = n := ⟨_, rfl⟩
  have hn01 : n = 0 ∨ n = 1 := by omega
  rw [hg] at SP hc0
  rw [hn] at SP hc0
  obtain ⟨N, hN⟩ : ∃ N : Nat, (N : Int) = zV n := ⟨(zV n).toNat, by rcases hn01 with rfl | rfl <;> rfl⟩
  have Nb : 38016 ≤ N ∧ N ≤ 152064 := by rcases hn01 with rfl | rfl <;> (have : (N : Int) = _ := hN; simp [zV] at this; omega)
  have Nm : N ≤ maxLen := Nat.le_trans Nb.2 (by decide)
  have N0 : 0 < N := by omega
  have H01 := Lib.hid hn01
  have HN := Lib.hid hN
  have HC := Lib.hid hc0
  clear hn01 hN hc0 hn hg HSH HM0
  have m1 := H8.out.cell 1 _ rfl
  have m2 := H8.out.cell 2 _ rfl
  have m3 := H8.out.cell 3 _ rfl
  have m4 := H8.out.cell 4 _ rfl
  have m5 := H8.out.cell 5 _ rfl
  have m6 := H8.out.cell 6 _ rfl
  go_upto_region 4 with fail
  clear ha1 ha2
  go_wp2_with fail
  refine (SP.out _).mono ?_
  rintro e v3 ⟨rfl, h2⟩
  have HB := Lib.hid (chain HB.out h2)
  have H8 := Lib.hid (H8.out.below h2)
  clear h2 m0 m1 m2 m3 m4 m5 m6 SP
  have zb := HB.out.size
  have hmb := H8.out.lt
  have b3 := ((Below.refl v3.heap.size v3).alloc (Nat.le_refl _) (.cells #[.int .i64 n, .int .i64 g, .int .i64 M.ad] 28)).drew
  have HP : Hid (At (v3.alloc (.cells #[.int .i64 n, .int .i64 g, .int .i64 M.ad] 28)).drew v3.heap.size #[.int .i64 n, .int .i64 g, .int .i64 M.ad] 28) := Lib.hid ((At.new v3 _ _).below (Below.refl _ _).drew)
  have HB := Lib.hid (chain HB.out b3)
  have H8 := Lib.hid (H8.out.below b3)
  have s0 := HP.out.cell 0 _ rfl
  clear b3
  go_upto_region 5 with fail
  go_cut [15, 16] (fun u v wx => ∃ (gi gf : Nat) (f0 F2 : Nat → Int), u = .slice (some ⟨gi, 0, none⟩) N N ∧ v = .slice (some ⟨gf, 0, none⟩) N N ∧ v3.heap.size < gi ∧ v3.heap.size < gf ∧ gi ≠ gf ∧ Arr wx .u8 gi N f0 ∧ Arr wx .u8 gf N F2 ∧ (∀ i, 0 ≤ F2 i ∧ F2 i ≤ 255) ∧ At wx v3.heap.size #[.int .i64 n, .int .i64 g, .int .i64 M.ad] 28 ∧ Hid (At wx w.heap.size #[.int .i64 M.ad, .int .i64 M.kd, .int .i64 M.qt, .int .i64 M.x, .int .i64 M.y, .int .i64 M.pt, vb] 24) ∧ Below w.heap.size w wx)
  case first =>
    go_region_with (first
      | (go_at_call_of 13 sa; refine (Mo.SceneB_any n sa 1 N H01.out HN.out _).mono ?_; rintro e V1 ⟨gi, f0, rfl, i1, i2, hA, _, h4⟩; have m1 := Nat.lt_of_lt_of_le HP.out.lt i1; (try have ne : gi ≠ gf := by omega); (try have HF := Lib.hid (HF.out.below h4 i4)); have HI := Lib.hid hA; have HP := Lib.hid (HP.out.below h4); have H8 := Lib.hid (H8.out.below h4); have HB := Lib.hid (chain HB.out h4); have s0 := HP.out.cell 0 _ rfl; clear hA h4)
      | (go_at_call_of 13 sb; refine (Mo.SceneB_any n sb 2 N H01.out HN.out _).mono ?_; rintro e V2 ⟨gf, F2, rfl, i3, i4, hA, fbd, h5⟩; have HBD := Lib.hid fbd; have m2 := Nat.lt_of_lt_of_le HP.out.lt i3; (try have ne : gi ≠ gf := by omega); (try have HI := Lib.hid (HI.out.below h5 i2)); have HF := Lib.hid hA; have HP := Lib.hid (HP.out.below h5); have H8 := Lib.hid (H8.out.below h5); have HB := Lib.hid (chain HB.out h5); have s0 := HP.out.cell 0 _ rfl; clear hA h5 fbd))
    all_goals (go_wp2_with fail; go_meet; exact ⟨_, _, _, _, rfl, rfl, m1, m2, ne, HI.out, HF.out, HBD.out, HP.out, H8, HB.out⟩)
  case rest =>
  obtain ⟨gi, gf, f0, F2, rfl, rfl, m1, m2, ne, hI, hF, hbd, hP, H8, hB⟩ := hcut
  have HI := Lib.hid hI
  have HF := Lib.hid hF
  have HP := Lib.hid hP
  have HB := Lib.hid hB
  have HBD := Lib.hid hbd
  have z1 := hI.lt N0
  have z2 := hF.lt N0
  clear hI hF hP hB hbd s0
  go_wp2_with fail
  refine (CopyBytes_any _ N f0 _ (by omega) (arr_part HI.out N0 (Nat.le_refl _) Nm)).mono ?_
  rintro e v5 ⟨gw, cw, rfl, n2, n3, n4, n5, hL, h5⟩
  have ok : OC.ok ⟨M, vb, n, g, w.heap.size, v3.heap.size, gi, gf, gw, cw, N, F2, f0⟩ w := ⟨⟨Nat.le_refl _, zb, by show w.heap.size ≤ gi; omega, by show w.heap.size ≤ gf; omega, by show w.heap.size ≤ gw; omega⟩, ⟨by show w.heap.size ≠ gi; omega, by show v3.heap.size ≠ gi; omega, by show gf ≠ gi; omega, by show gw ≠ gi; omega, by show w.heap.size ≠ gw; omega, by show v3.heap.size ≠ gw; omega, by show gf ≠ gw; omega⟩, ⟨n4, n5, Nm⟩, HC.out, HN.out, N0, HBD.out⟩
  have S0 : Hid (OK ⟨M, vb, n, g, w.heap.size, v3.heap.size, gi, gf, gw, cw, N, F2, f0⟩ w v5 f0 f0) := Lib.hid ⟨H8.out.below h5, HP.out.below h5, HI.out.below h5 z1, HF.out.below h5 z2, hL, chain HB.out h5⟩
  have KK := Lib.hid ok
  have hx1 : gi < v5.heap.size := Nat.lt_of_lt_of_le z1 h5.size
  clear HP HI HF HB H8 HBD hL h5 ok n2
  have s0 := S0.out.spot.cell 0 _ rfl
  have s1 := S0.out.spot.cell 1 _ rfl
  have s2 := S0.out.spot.cell 2 _ rfl
  have t0 := S0.out.mac.cell 0 _ rfl
  have t1 := S0.out.mac.cell 1 _ rfl
  have t2 := S0.out.mac.cell 2 _ rfl
  have t3 := S0.out.mac.cell 3 _ rfl
  have t4 := S0.out.mac.cell 4 _ rfl
  have t5 := S0.out.mac.cell 5 _ rfl
  have t6 := S0.out.mac.cell 6 _ rfl
  go_wp2_with fail
  refine (S0.out.samples KK.out HM.out qu).mono ?_
  rintro e v6 ⟨v, rfl, hv1, hv2, hS, h6⟩
  clear s0 s1 s2 t0 t1 t2 t3 t4 t5 t6
  have S1 := Lib.hid hS
  have hx2 : gi < v5.heap.size := hx1
  have HX6 := Lib.hid h6
  clear hS h6 S0
  have s0 := S1.out.spot.cell 0 _ rfl
  have s1 := S1.out.spot.cell 1 _ rfl
  have s2 := S1.out.spot.cell 2 _ rfl
  have t0 := S1.out.mac.cell 0 _ rfl
  have t1 := S1.out.mac.cell 1 _ rfl
  have t2 := S1.out.mac.cell 2 _ rfl
  have t3 := S1.out.mac.cell 3 _ rfl
  have t4 := S1.out.mac.cell 4 _ rfl
  have t5 := S1.out.mac.cell 5 _ rfl
  have t6 := S1.out.mac.cell 6 _ rfl
  have HMC := Lib.hid (S1.out.macro KK.out HM.out qu)
  have HMF : Hid (macF M n g M.ad N N qu F2 f0 = if smE M n g M.ad N qu = 0 then layS n g M.ad (smp M n g M.ad (aF N F2) qu) f0 6 else f0) := Lib.hid (by unfold macF; rw [smE_own qu HC.out HN.out])
  dsimp only at HMC hv1 hv2
  obtain ⟨E, hE⟩ : ∃ E, smE M n g M.ad N qu = E := ⟨_, rfl⟩
  obtain ⟨FM, hFM⟩ : ∃ FM, macF M n g M.ad N N qu F2 f0 = FM := ⟨_, rfl⟩
  obtain ⟨SS, hSS⟩ : ∃ SS, smp M n g M.ad (aF N F2) qu = SS := ⟨_, rfl⟩
  rw [hE, hFM] at HMC
  rw [hE, hFM, hSS] at HMF
  rw [hE, hSS] at hv1
  rw [hE] at hv2 ⊢
  clear hE hFM hSS
  by_cases hE0 : E = 0
  · obtain ⟨sg, sc, Vs, rfl, u1, u2, u3, u4⟩ := (hv1 hE0).row
    have HSix := Lib.hid u4
    rw [if_pos hE0] at HMF
    subst hE0
    clear hv1 hv2 u4
    go_wp2_with (go_at_call 16; refine HMC.out.mono ?_; rintro e v7 ⟨rfl, hS2, hg7⟩; have S2 := Lib.hid hS2; have HG7 := Lib.hid hg7; clear hS2 hg7 s0 s1 s2 t0 t1 t2 t3 t4 t5 t6 HMC)
    have HR : Hid (∀ i, i < 6 → v7.cell? ⟨sg, i, none⟩ = some (.slice (some ⟨(Vs i).1, 0, none⟩) 64 (Vs i).2) ∧ gw < (Vs i).1 ∧ Sl .u8 v7 (.slice (some ⟨(Vs i).1, 0, none⟩) 64 (Vs i).2) 64 (SS i)) := Lib.hid (fun i hi => by
      obtain ⟨r1, r2, r3⟩ := HSix.out i hi
      exact ⟨grown_cell HG7.out (fun e => by have := Option.some.inj e; omega) r1, by omega, Sl.grown' r3 HG7.out (fun _ x e e2 => by cases e; have := Option.some.inj e2; simp at this; omega)⟩)
    have hsw : sg ≠ gw := by omega
    clear HSix HG7 S1 HX6
    go_loopw [21] (fun x wr => ∃ k : Nat, k ≤ 6 ∧ x = .int .i64 k ∧ Hid (OK ⟨M, vb, n, g, w.heap.size, v3.heap.size, gi, gf, gw, cw, N, F2, f0⟩ w wr FM (layS n g M.ad SS f0 k)) ∧ Hid (v7.grownBy wr (some gw))) (fun x _ => 6 - (intOf x).toNat)
    case atStart => exact ⟨0, by omega, rfl, S2, Lib.hid (World.grownBy.refl _ _)⟩
    case round =>
      clear S2
      obtain ⟨k, hk, rfl, S3, HG⟩ := hrel
      by_cases hk6 : k < 6
      · have kb : (0 : Int) ≤ (k : Int) ∧ (k : Int) < 6 := by omega
        have ek : IntKind.i64.wrap ((k : Int) + 1) = (k : Int) + 1 := IntWalk.i64_in _ (by omega)
        obtain ⟨r1, r2, r3⟩ := HR.out k hk6
        go_upto_region 18 with fail
        have S4 := Lib.hid (S3.out.below KK.out (Below.refl _ _).drew)
        have q1 := (((Below.refl wr.heap.size wr).drew).cell (p := ⟨sg, k, none⟩) (by have h1 : sg < v7.heap.size := World.block_lt_of_cell? _ _ r1; have h2 := HG.out.size; show sg < wr.heap.size; omega)).trans (grown_cell HG.out (fun e => hsw (Option.some.inj e)) r1)
        have q3 : Sl .u8 wr.drew (.slice (some ⟨(Vs k).1, 0, none⟩) 64 (Vs k).2) 64 (SS k) := (Sl.grown' r3 HG.out (fun _ x e e2 => by cases e; have := Option.some.inj e2; simp at this; omega)).below (Below.refl _ _).drew
        have HL := Lib.hid (S4.out.lay KK.out k _ _ _ hk6 q3 (show gw ≠ _ by omega))
        have s0 := S4.out.spot.cell 0 _ rfl
        have s1 := S4.out.spot.cell 1 _ rfl
        have s2 := S4.out.spot.cell 2 _ rfl
        have HG4 : Hid (v7.grownBy wr.drew (some gw)) := Lib.hid (grown_trans HG.out (grown_of_below (Below.refl _ _).drew _))
        clear r1 r2 r3 q3 S3 HG
        go_cut [96] (fun u wx => u = .bool false ∧ Hid (OK ⟨M, vb, n, g, w.heap.size, v3.heap.size, gi, gf, gw, cw, N, F2, f0⟩ w wx FM (layS n g M.ad SS f0 (k + 1))) ∧ Hid (v7.grownBy wx (some gw)))
        case first =>
          go_region_with (go_at_call 18; refine HL.out.mono ?_; rintro e w3 ⟨rfl, hS, hg⟩; have S5 := Lib.hid hS; have HG5 := Lib.hid (grown_trans HG4.out hg); clear hS hg s0 s1 s2 q1)
          all_goals (go_wp2_with fail; go_meet; exact ⟨rfl, S5, HG5⟩)
        case rest =>
        obtain ⟨rfl, S5, HG5⟩ := hcut
        clear s0 s1 s2 q1 HL HG4 S4
        go_wp2_with fail
        go_roundw
        case rel => exact ⟨k + 1, by omega, by go_num, S5, HG5⟩
        case measure => simp [intOf]; omega
      · have kb : ¬ (k : Int) < 6 := by omega
        have hk7 : k = 6 := by omega
        subst hk7
        clear hk hk6
        have A1 := Lib.hid (arr_part S3.out.x N0 (Nat.le_refl _) Nm)
        have A2 := Lib.hid (arr_part S3.out.was N0 n4 n5)
        have HEQ := HMF.out
        go_wp2_with (go_at_call 17; refine (SameBytes_true _ _ _ _ _ _ A1.out A2.out (fun i _ => by rw [HEQ])).mono ?_; rintro e w7 ⟨rfl, rfl⟩)
        go_ret
        exact ⟨rfl, S3.out.bel⟩
  · obtain rfl := hv2 hE0
    rw [if_neg hE0] at HMF
    have e1 : (E != E) = false := by simp
    have e2 : (E != 0) = true := by simpa using hE0
    clear hv1 hv2 hE0
    go_wp2_with (first
      | (go_at_call 16; refine HMC.out.mono ?_; rintro e v7 ⟨rfl, hS2, _⟩; have S2 := Lib.hid hS2; have A1 := Lib.hid (arr_part S2.out.x N0 (Nat.le_refl _) Nm); have A2 := Lib.hid (arr_part S2.out.was N0 n4 n5); clear hS2 s0 s1 s2 t0 t1 t2 t3 t4 t5 t6 HMC)
      | (go_at_call 17; refine (SameBytes_true _ _ _ _ _ _ A1.out A2.out (fun i _ => by rw [HMF.out])).mono ?_; rintro e w7 ⟨rfl, rfl⟩))
    go_ret
    exact ⟨rfl, S2.out.bel⟩
end Bl
end Go.Proofs.YtbmglemjfodfhaaGreat
