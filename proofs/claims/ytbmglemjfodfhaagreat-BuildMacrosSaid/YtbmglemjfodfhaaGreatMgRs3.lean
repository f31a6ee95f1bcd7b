/- The document's answer: build: size, ahead, predicted. | The document's answer: build.Samples. | The document's answer: build.Macro, build.Skip. -/
import Derived.Test.YtbmglemjfodfhaaGreatMgBl2
import Derived.Test.YtbmglemjfodfhaaGreatMgBu4
import Derived.Test.YtbmglemjfodfhaaGreatMgLoopE
import Derived.Test.YtbmglemjfodfhaaGreatMgRh3
import Derived.Test.YtbmglemjfodfhaaGreatMgRk4
import Derived.Deep.RegionHeld3
set_option linter.unusedVariables false
set_option linter.unusedSimpArgs false

namespace Go.Proofs.YtbmglemjfodfhaaGreat
open Go.RowKit
namespace Bu
open Bk Fr Pt Kd

theorem rsize_any (n : Int) (w : World) : Calls Tryz.prog 60 #[.int .i64 n] w fun e w' => e = .returned (.int .i64 (zV n)) ∧ w = w' := by
  have HS := Lib.hid (fun V => Rf.rSize_any n V)
  go_enter Tryz.func60, Tryz.ntmps60
  go_wp2_with (go_at_call 77; refine (HS.out _).mono ?_; rintro e w1 ⟨rfl, rfl⟩)
  go_ret
  exact ⟨rfl, rfl⟩
theorem rahead_any (a : Option Addr) (N c : Nat) (f : Nat → Int) (n : Int) (w : World) (hs : Sl .u8 w (.slice a N c) N f) :
    Calls Tryz.prog 64 #[.slice a N c, .int .i64 n] w fun e w' => ∃ v, e = .returned v ∧ Sl .u8 w' v (aN N n) (aF N f) ∧ (v = .slice a N c ∨ Res .u8 w.heap.size w' v (aN N n) (aF N f)) ∧ Below w.heap.size w w' := by
  have HS := Lib.hid hs
  clear hs
  by_cases h0 : N = 0
  · have e1 : aN N n = Pa.gryN n := if_pos h0
    have e2 : aF N f = fun _ => 128 := if_pos h0
    rw [e1, e2]
    subst h0
    have HG := Lib.hid (fun V => Pa.rGrey_any n V)
    clear e1 e2
    go_enter Tryz.func64, Tryz.ntmps64
    go_wp2_with (go_at_call 107; refine (HG.out _).mono ?_; rintro e w1 ⟨v, rfl, hR, h1⟩; have HB := Lib.hid h1; have HR := Lib.hid hR; clear h1 hR)
    go_ret
    exact ⟨v, rfl, HR.out.sl, .inr HR.out, HB.out⟩
  · have e1 : aN N n = N := if_neg h0
    have e2 : aF N f = f := if_neg h0
    rw [e1, e2]
    have t1 : ((N : Int) == 0) = false := by simp; omega
    clear e1 e2 h0
    go_enter Tryz.func64, Tryz.ntmps64
    go_wp2_with fail
    go_ret
    exact ⟨_, rfl, HS.out, .inl rfl, Below.refl _ _⟩
section
set_option maxRecDepth 100000
set_option maxHeartbeats 4000000
set_option linter.unusedVariables false
theorem rpred_any (M : MB) (vb vf : Value) (N0 : Nat) (F0 : Nat → Int) (n g a : Int) (k : Nat) (zQ zV' zC : Bool) (w : World) (hs : Sl .u8 w vf N0 F0) (hF : ∀ i, 0 ≤ F0 i ∧ F0 i ≤ 255) (hk : k < 6) (hc : cE n g a = 0) (hN : (N0 : Int) = zV n) (hv : Mo.vE n g a M.x M.y = 0) (hx : -15 ≤ M.x ∧ M.x ≤ 15) (hy : -15 ≤ M.y ∧ M.y ≤ 15) (hI : pI M.kd = false) :
    Calls Tryz.prog 66 #[vf, sp n g a, mv M vb, .int .i64 ((k : Int) + 1), .agg #[.bool false, .bool zQ, .bool zV', .bool (pF M.kd), .bool zC]] w fun e w' => ∃ v, e = .returned v ∧ Res .u8 w.heap.size w' v 64 (pP M n g a F0 k) ∧ Below w.heap.size w w' := by
  have HF : Hid (∀ V, Sl .u8 V vf N0 F0 → Calls Tryz.prog 108 #[vf, .agg #[.int .i64 n, .int .i64 g, .int .i64 a], .int .i64 ((k : Int) + 1), .int .i64 M.x, .int .i64 M.y] V fun e w' => ∃ v', e = .returned (.tuple #[v', .int .i64 0]) ∧ Res .u8 V.heap.size w' v' 64 (Mo.fetF F0 n g a ((k : Int) + 1) M.x M.y) ∧ Below V.heap.size V w') := Lib.hid (fun V h => by
    have := Rf.rFetch_any vf N0 F0 n g a ((k : Int) + 1) M.x M.y V h (wf_small hx) (wf_small hy)
    have e0 : Mo.fetE N0 n g a ((k : Int) + 1) M.x M.y = 0 := by unfold Mo.fetE; rw [if_neg (by omega), if_neg (by omega), if_neg (by omega), hv]
    rw [e0, show Mo.fetN N0 n g a ((k : Int) + 1) M.x M.y = 64 from if_pos e0] at this
    exact this)
  have HL : Hid (∀ V v, Sl .u8 V v 64 (Mo.fetF F0 n g a ((k : Int) + 1) M.x M.y) → Calls Tryz.prog 109 #[v] V fun e w' => ∃ v', e = .returned (.tuple #[v', .int .i64 0]) ∧ Res .u8 V.heap.size w' v' 64 (Lo.filt (Mo.fetF F0 n g a ((k : Int) + 1) M.x M.y)) ∧ Below V.heap.size V w') := Lib.hid (fun V v h => by
    have := Lo.rFilter_any v 64 _ V h (fun t => fetF_bd hF _ _ _ _ _ _ t)
    unfold Lo.Filters at this
    exact this)
  have hP : pP M n g a F0 k = if pF M.kd = true then Lo.filt (Mo.fetF F0 n g a ((k : Int) + 1) M.x M.y) else Mo.fetF F0 n g a ((k : Int) + 1) M.x M.y := by unfold pP; rw [if_neg (by simp [hI])]
  rw [hP]
  obtain ⟨G, hG⟩ : ∃ G, Mo.fetF F0 n g a ((k : Int) + 1) M.x M.y = G := ⟨_, rfl⟩
  rw [hG] at HF HL
  rw [hG]
  have b1 := (((Below.refl w.heap.size w).alloc (Nat.le_refl _) (.cells #[.int .i64 n, .int .i64 g, .int .i64 a] 28)).alloc (by simp) (.cells #[.int .i64 M.ad, .int .i64 M.kd, .int .i64 M.qt, .int .i64 M.x, .int .i64 M.y, .int .i64 M.pt, vb] 24)).alloc (by simp; omega) (.cells #[.bool false, .bool zQ, .bool zV', .bool (pF M.kd), .bool zC] 67)
  have HB := Lib.hid b1
  have HS := Lib.hid (hs.below b1)
  have H5 : Hid (At _ _ _ _) := Lib.hid (((At.new w #[.int .i64 n, .int .i64 g, .int .i64 a] 28).below ((Below.refl _ _).alloc (Nat.le_refl _) (.cells #[.int .i64 M.ad, .int .i64 M.kd, .int .i64 M.qt, .int .i64 M.x, .int .i64 M.y, .int .i64 M.pt, vb] 24))).below ((Below.refl _ _).alloc (Nat.le_refl _) (.cells #[.bool false, .bool zQ, .bool zV', .bool (pF M.kd), .bool zC] 67)))
  have H6 : Hid (At _ _ _ _) := Lib.hid ((At.new (w.alloc (.cells #[.int .i64 n, .int .i64 g, .int .i64 a] 28)) #[.int .i64 M.ad, .int .i64 M.kd, .int .i64 M.qt, .int .i64 M.x, .int .i64 M.y, .int .i64 M.pt, vb] 24).below ((Below.refl _ _).alloc (Nat.le_refl _) (.cells #[.bool false, .bool zQ, .bool zV', .bool (pF M.kd), .bool zC] 67)))
  have H7 : Hid (At _ _ _ _) := Lib.hid (At.new ((w.alloc (.cells #[.int .i64 n, .int .i64 g, .int .i64 a] 28)).alloc (.cells #[.int .i64 M.ad, .int .i64 M.kd, .int .i64 M.qt, .int .i64 M.x, .int .i64 M.y, .int .i64 M.pt, vb] 24)) #[.bool false, .bool zQ, .bool zV', .bool (pF M.kd), .bool zC] 67)
  simp only [World.size_alloc] at H6 H7
  have sz := b1.size
  obtain ⟨zF, hz⟩ : ∃ z, pF M.kd = z := ⟨_, rfl⟩
  rw [hz] at HB HS H5 H6 H7 sz
  rw [hz]
  have s0 := H5.out.cell 0 _ rfl
  have s1 := H5.out.cell 1 _ rfl
  have s2 := H5.out.cell 2 _ rfl
  have m3 := H6.out.cell 3 _ rfl
  have m4 := H6.out.cell 4 _ rfl
  clear b1 hG hP hz hs hF hk hc hN hv hx hy hI
  cases zF with
  | false =>
    go_enter Tryz.func66, Tryz.ntmps66
    go_wp2_with (go_at_call 108; refine (HF.out _ HS.out).mono ?_; rintro e w1 ⟨v1, rfl, hR, h1⟩; have HB := Lib.hid (chain HB.out h1); have HR1 := Lib.hid (Res.base hR sz); have p3 := (H7.out.below h1).cell 3 _ rfl; clear h1 hR s0 s1 s2 m3 m4)
    go_ret
    exact ⟨_, rfl, HR1.out, HB.out⟩
  | true =>
    go_enter Tryz.func66, Tryz.ntmps66
    go_wp2_with (first
      | (go_at_call 108; refine (HF.out _ HS.out).mono ?_; rintro e w1 ⟨v1, rfl, hR, h1⟩; have sz := Nat.le_trans sz h1.size; have HB := Lib.hid (chain HB.out h1); have HR1 := Lib.hid hR; have p3 := (H7.out.below h1).cell 3 _ rfl; clear h1 hR s0 s1 s2 m3 m4)
      | (go_at_call 109; refine (HL.out _ _ HR1.out.sl).mono ?_; rintro e w2 ⟨v2, rfl, hR, h1⟩; have HB := Lib.hid (chain HB.out h1); have HR2 := Lib.hid (Res.base hR sz); clear h1 hR p3))
    go_ret
    exact ⟨_, rfl, HR2.out, HB.out⟩
end
end Bu
end Go.Proofs.YtbmglemjfodfhaaGreat

namespace Go.Proofs.YtbmglemjfodfhaaGreat
open Go.RowKit
namespace Bu
open Bk Fr Pt Kd

/-- why samples are not told, where there is a spot. -/
def rBad (M : MB) (n a : Int) (N : Nat) : Bool := (decide (0 < N) && ((N : Int) != zV n)) || (M.e != 0) || (M.ad != a)
theorem rBad_iff (M : MB) (n a : Int) (N : Nat) : rBad M n a N = true ↔ (0 < N ∧ (N : Int) ≠ zV n) ∨ M.e ≠ 0 ∨ M.ad ≠ a := by
  unfold rBad
  simp [or_assoc]
theorem all_has {M : MB} (h : M.e = 0) (hI : pI M.kd = true) (i : Nat) (hi : i < 6) : hasP M.pt ((i : Int) + 1) = true := by
  have h2 := (ok_parts h).2.1
  unfold MB.bad2 at h2
  simp only [Bool.or_eq_false_iff, Bool.and_eq_false_iff] at h2
  obtain ⟨⟨⟨_, h3⟩, _⟩, _⟩ := h2
  have h4 : M.pt = 63 := by
    rcases h3 with h3 | h3
    · rw [hI] at h3; cases h3
    · simpa using h3
  rw [h4]
  rcases (by omega : i = 0 ∨ i = 1 ∨ i = 2 ∨ i = 3 ∨ i = 4 ∨ i = 5) with rfl | rfl | rfl | rfl | rfl | rfl <;> decide
section
set_option maxRecDepth 100000
set_option maxHeartbeats 40000000
set_option linter.unusedVariables false
variable (M : MB) (vb : Value) (fa : Option Addr) (N fc : Nat) (f : Nat → Int) (n g a q : Int) (w : World)
theorem rsmp_no1 (hc : cE n g a ≠ 0) :
    Calls Tryz.prog 22 #[.slice fa N fc, sp n g a, mv M vb, .int .i64 q] w fun e w' => e = .returned (.tuple #[.slice none 0 0, .int .i64 (cE n g a)]) ∧ Below w.heap.size w w' := by
  have HS := Lib.hid (fun V => Rf.rCorner_any n g a V)
  obtain ⟨E, hE⟩ : ∃ E, cE n g a = E := ⟨_, rfl⟩
  rw [hE] at HS hc
  rw [hE]
  have t1 : (E != 0) = true := by simpa using hc
  clear hc hE
  have HB := Lib.hid (((Below.refl w.heap.size w).alloc (Nat.le_refl _) (.cells #[.int .i64 n, .int .i64 g, .int .i64 a] 28)).alloc (by simp) (.cells #[.int .i64 M.ad, .int .i64 M.kd, .int .i64 M.qt, .int .i64 M.x, .int .i64 M.y, .int .i64 M.pt, vb] 24))
  have H5 : Hid (At _ _ _ _) := Lib.hid ((At.new w #[.int .i64 n, .int .i64 g, .int .i64 a] 28).below ((Below.refl _ _).alloc (Nat.le_refl _) (.cells #[.int .i64 M.ad, .int .i64 M.kd, .int .i64 M.qt, .int .i64 M.x, .int .i64 M.y, .int .i64 M.pt, vb] 24)))
  have k0 := H5.out.cell 0 _ rfl
  have k1 := H5.out.cell 1 _ rfl
  have k2 := H5.out.cell 2 _ rfl
  go_enter Tryz.func22, Tryz.ntmps22
  go_wp2_with (go_at_call 59; refine (HS.out _).mono ?_; rintro e w1 ⟨rfl, b1⟩; have HB := Lib.hid (chain HB.out b1); clear b1 H5 k0 k1 k2)
  go_ret2
  exact ⟨rfl, HB.out⟩
def rsmpPost (M : MB) (n g a : Int) (N : Nat) (f : Nat → Int) (q : Int) (w : World) (e : Ending) (w' : World) : Prop := ∃ v, e = .returned (.tuple #[v, .int .i64 (smE M n g a N q)]) ∧ (smE M n g a N q = 0 → Six w.heap.size w' v (smp M n g a (aF N f) q)) ∧ (smE M n g a N q ≠ 0 → v = .slice none 0 0) ∧ Below w.heap.size w w'
theorem rsmp_out {M : MB} {n g a : Int} {N : Nat} {f : Nat → Int} {q : Int} {w w' : World} {x : Int} (hx : smE M n g a N q = x) (h0 : x ≠ 0) (hb : Below w.heap.size w w') : rsmpPost M n g a N f q w (.returned (.tuple #[.slice none 0 0, .int .i64 x])) w' :=
  ⟨_, by rw [hx], fun h1 => absurd (hx.symm.trans h1) h0, fun _ => rfl, hb⟩
theorem rsmp_yes {M : MB} {n g a : Int} {N : Nat} {f : Nat → Int} {q : Int} {w w' : World} {v : Value} (hx : smE M n g a N q = 0) (h : Six w.heap.size w' v (smp M n g a (aF N f) q)) (hb : Below w.heap.size w w') : rsmpPost M n g a N f q w (.returned (.tuple #[v, .int .i64 0])) w' :=
  ⟨_, by rw [hx], fun _ => h, fun h0 => absurd hx h0, hb⟩
theorem rsmp_on (hs : Sl .u8 w (.slice fa N fc) N f) (hf : ∀ i, 0 ≤ f i ∧ f i ≤ 255) (hc : cE n g a = 0) (hb : M.at w vb) :
    Calls Tryz.prog 22 #[.slice fa N fc, sp n g a, mv M vb, .int .i64 q] w (rsmpPost M n g a N f q w) := by
  have HS := Lib.hid (fun V => Rf.rCorner_any n g a V)
  rw [hc] at HS
  have HZ := Lib.hid (fun V => rsize_any n V)
  have HC := Lib.hid (fun V h => rmCheck_any M vb V h)
  -- the error, by stages
  have E1 : Hid (rBad M n a N = true → smE M n g a N q = 2) := Lib.hid (fun h => by unfold smE; rw [if_neg (by omega), if_pos ((rBad_iff M n a N).1 h)])
  have E2 : Hid (rBad M n a N = false → (q < 1 ∨ 31 < q) → smE M n g a N q = 3) := Lib.hid (fun h h5 => by unfold smE; rw [if_neg (by omega), if_neg (fun h' => by rw [(rBad_iff M n a N).2 h'] at h; cases h), if_pos h5])
  have E3 : Hid (rBad M n a N = false → ¬ (q < 1 ∨ 31 < q) → smE M n g a N q = if pV M.kd = true ∧ Mo.vE n g a M.x M.y ≠ 0 then Mo.vE n g a M.x M.y else 0) := Lib.hid (fun h h5 => by unfold smE; rw [if_neg (by omega), if_neg (fun h' => by rw [(rBad_iff M n a N).2 h'] at h; cases h), if_neg h5])
  have HN : Hid (rBad M n a N = false → (N = 0 ∨ (N : Int) = zV n) ∧ M.e = 0 ∧ M.ad = a) := Lib.hid (fun h => by
    have h' : ¬ ((0 < N ∧ (N : Int) ≠ zV n) ∨ M.e ≠ 0 ∨ M.ad ≠ a) := fun h' => by rw [(rBad_iff M n a N).2 h'] at h; cases h
    refine ⟨?_, ?_, ?_⟩
    · by_cases h0 : N = 0
      · exact .inl h0
      · by_cases h1 : (N : Int) = zV n
        · exact .inr h1
        · exact absurd (.inl ⟨by omega, h1⟩) h'
    · by_cases h1 : M.e = 0
      · exact h1
      · exact absurd (.inr (.inl h1)) h'
    · by_cases h1 : M.ad = a
      · exact h1
      · exact absurd (.inr (.inr h1)) h')
  have HSl := Lib.hid hs
  have HF := Lib.hid hf
  have HA := Lib.hid hb
  have HCE := Lib.hid hc
  obtain ⟨RB, hRB⟩ : ∃ x, rBad M n a N = x := ⟨_, rfl⟩
  rw [hRB] at E1 E2 E3 HN
  have HRB : Hid (RB = ((decide (0 < N) && ((N : Int) != zV n)) || (M.e != 0) || (M.ad != a))) := Lib.hid hRB.symm
  clear hs hf hc hb hRB
  have HB := Lib.hid (((Below.refl w.heap.size w).alloc (Nat.le_refl _) (.cells #[.int .i64 n, .int .i64 g, .int .i64 a] 28)).alloc (by simp) (.cells #[.int .i64 M.ad, .int .i64 M.kd, .int .i64 M.qt, .int .i64 M.x, .int .i64 M.y, .int .i64 M.pt, vb] 24))
  have H5 : Hid (At _ _ _ _) := Lib.hid ((At.new w #[.int .i64 n, .int .i64 g, .int .i64 a] 28).below ((Below.refl _ _).alloc (Nat.le_refl _) (.cells #[.int .i64 M.ad, .int .i64 M.kd, .int .i64 M.qt, .int .i64 M.x, .int .i64 M.y, .int .i64 M.pt, vb] 24)))
  have H6 : Hid (At _ _ _ _) := Lib.hid (At.new (w.alloc (.cells #[.int .i64 n, .int .i64 g, .int .i64 a] 28)) #[.int .i64 M.ad, .int .i64 M.kd, .int .i64 M.qt, .int .i64 M.x, .int .i64 M.y, .int .i64 M.pt, vb] 24)
  simp only [World.size_alloc] at H6
  have k0 := H5.out.cell 0 _ rfl
  have k1 := H5.out.cell 1 _ rfl
  have k2 := H5.out.cell 2 _ rfl
  go_enter Tryz.func22, Tryz.ntmps22
  go_wp2_with fail
  refine (HS.out _).mono ?_
  rintro e w1 ⟨rfl, b1⟩
  have H5 := Lib.hid (H5.out.below b1)
  have H6 := Lib.hid (H6.out.below b1)
  have HB := Lib.hid (chain HB.out b1)
  have lz : w.heap.size + 2 ≤ w1.heap.size := by have := b1.size; simp at this; omega
  clear b1 k0 k1 k2 HS
  go_upto_region 4 with fail
  go_cut [59] (fun u wx => u = .bool RB ∧ Hid (Below w1.heap.size w1 wx))
  case first =>
    have k0 := H5.out.cell 0 _ rfl
    have k2 := H5.out.cell 2 _ rfl
    have m0 := H6.out.cell 0 _ rfl
    have m1 := H6.out.cell 1 _ rfl
    have m2 := H6.out.cell 2 _ rfl
    have m3 := H6.out.cell 3 _ rfl
    have m4 := H6.out.cell 4 _ rfl
    have m5 := H6.out.cell 5 _ rfl
    have m6 := H6.out.cell 6 _ rfl
    have HA1 := Lib.hid (HA.out.below HB.out)
    obtain ⟨ME, hME⟩ : ∃ x, M.e = x := ⟨_, rfl⟩
    obtain ⟨Z, hZ⟩ : ∃ x, zV n = x := ⟨_, rfl⟩
    rw [hZ] at HZ HRB
    rw [hME] at HC HRB
    clear hME hZ E1 E2 E3 HN
    by_cases h0 : 0 < N
    · have t0 : (0 : Int) < (N : Int) := by omega
      by_cases h1 : (N : Int) = Z
      · have t1 : ((N : Int) != Z) = false := by simp [h1]
        by_cases h2 : ME = 0
        · have t2 : (ME != 0) = false := by simp [h2]
          have HRB' : Hid (RB = (M.ad != a)) := Lib.hid (by rw [HRB.out, t1, t2]; simp)
          clear h0 h1 h2 HRB
          go_wp2_with (first
            | (go_at_call 60; refine (HZ.out _).mono ?_; rintro e w2 ⟨rfl, rfl⟩)
            | (go_at_call 61; refine (HC.out _ HA1.out).mono ?_; rintro e w2 ⟨rfl, b2⟩; have k2 := (H5.out.below b2).cell 2 _ rfl; have m0 := (H6.out.below b2).cell 0 _ rfl; have B2 := Lib.hid b2; clear b2))
          go_meet
          exact ⟨by rw [HRB'.out], B2⟩
        · have t2 : (ME != 0) = true := by simpa using h2
          have HRB' : Hid (RB = true) := Lib.hid (by rw [HRB.out, t1, t2]; simp)
          clear h0 h1 h2 HRB
          go_wp2_with (first
            | (go_at_call 60; refine (HZ.out _).mono ?_; rintro e w2 ⟨rfl, rfl⟩)
            | (go_at_call 61; refine (HC.out _ HA1.out).mono ?_; rintro e w2 ⟨rfl, b2⟩; have B2 := Lib.hid b2; clear b2))
          go_meet
          exact ⟨by rw [HRB'.out], B2⟩
      · have t1 : ((N : Int) != Z) = true := by simpa using h1
        have HRB' : Hid (RB = true) := Lib.hid (by rw [HRB.out, t1, decide_eq_true h0]; simp)
        clear h0 h1 HRB
        go_wp2_with (go_at_call 60; refine (HZ.out _).mono ?_; rintro e w2 ⟨rfl, rfl⟩)
        go_meet
        exact ⟨by rw [HRB'.out], Lib.hid (Below.refl _ _)⟩
    · have t0 : ¬ (0 : Int) < (N : Int) := by omega
      by_cases h2 : ME = 0
      · have t2 : (ME != 0) = false := by simp [h2]
        have HRB' : Hid (RB = (M.ad != a)) := Lib.hid (by rw [HRB.out, t2, decide_eq_false h0]; simp)
        clear h0 h2 HRB
        go_wp2_with (go_at_call 61; refine (HC.out _ HA1.out).mono ?_; rintro e w2 ⟨rfl, b2⟩; have k2 := (H5.out.below b2).cell 2 _ rfl; have m0 := (H6.out.below b2).cell 0 _ rfl; have B2 := Lib.hid b2; clear b2)
        go_meet
        exact ⟨by rw [HRB'.out], B2⟩
      · have t2 : (ME != 0) = true := by simpa using h2
        have HRB' : Hid (RB = true) := Lib.hid (by rw [HRB.out, t2]; simp)
        clear h0 h2 HRB
        go_wp2_with (go_at_call 61; refine (HC.out _ HA1.out).mono ?_; rintro e w2 ⟨rfl, b2⟩; have B2 := Lib.hid b2; clear b2)
        go_meet
        exact ⟨by rw [HRB'.out], B2⟩
  case rest =>
  obtain ⟨rfl, B2⟩ := hcut
  have H5 := Lib.hid (H5.out.below B2.out)
  have H6 := Lib.hid (H6.out.below B2.out)
  have HB := Lib.hid (chain HB.out B2.out)
  have lz : w.heap.size + 2 ≤ wc.heap.size := Nat.le_trans lz B2.out.size
  clear HC HZ HRB B2
  cases RB with
  | true =>
    have E := E1.out rfl
    go_wp2_with fail
    go_ret2
    exact rsmp_out E (by decide) HB.out
  | false =>
  obtain ⟨hnz, he, ha⟩ := HN.out rfl
  by_cases hq : q < 1 ∨ 31 < q
  · have E := E2.out rfl hq
    clear hnz he ha
    rcases hq with hq | hq
    · go_wp2_with fail
      go_ret2
      exact rsmp_out E (by decide) HB.out
    · by_cases hq1 : q < 1
      · omega
      · clear hq1
        have q1 : ¬ q < 1 := by omega
        go_wp2_with fail
        go_ret2
        exact rsmp_out E (by decide) HB.out
  have E := Lib.hid (E3.out rfl hq)
  have hxy := ok_xy he
  have q1 : ¬ q < 1 := by omega
  have q2 : ¬ 31 < q := by omega
  have HFi := Lib.hid (fun V => Rf.rFits_any n g a M.x M.y V)
  have HK := Lib.hid (fun V => rOf_any M.kd V)
  unfold parts at HK
  rw [show kE M.kd = 0 by unfold kE; rw [hxy.2.2.2.1]; rfl] at HK
  have HQ0 : Hid (¬ (q < 1 ∨ 31 < q)) := Lib.hid hq
  have HE := Lib.hid he
  have HNZ := Lib.hid hnz
  obtain ⟨V0, hV0⟩ : ∃ x, Mo.vE n g a M.x M.y = x := ⟨_, rfl⟩
  rw [hV0] at E HFi
  have HV0 := Lib.hid hV0
  obtain ⟨zI, hI⟩ : ∃ z, pI M.kd = z := ⟨_, rfl⟩
  obtain ⟨zQ, hzQ⟩ : ∃ z, pQ M.kd = z := ⟨_, rfl⟩
  obtain ⟨zV', hzV⟩ : ∃ z, pV M.kd = z := ⟨_, rfl⟩
  obtain ⟨zF, hzF⟩ : ∃ z, pF M.kd = z := ⟨_, rfl⟩
  obtain ⟨zC, hzC⟩ : ∃ z, pC M.kd = z := ⟨_, rfl⟩
  rw [hI, hzQ, hzV, hzF, hzC] at HK
  rw [hzV] at E
  have HI := Lib.hid hI
  have HzQ := Lib.hid hzQ
  have HzV := Lib.hid hzV
  have HzF := Lib.hid hzF
  clear hq he hnz ha hV0 hI hzQ hzV hzF hzC hxy E1 E2 E3 HN
  have m1 := H6.out.cell 1 _ rfl
  go_wp2_with fail
  refine (HK.out _).mono ?_
  rintro e w3 ⟨rfl, b3⟩
  have b4 := (Below.refl w3.heap.size w3).alloc (Nat.le_refl _) (.cells #[.bool zI, .bool zQ, .bool zV', .bool zF, .bool zC] 67)
  have HP := Lib.hid (At.new w3 #[.bool zI, .bool zQ, .bool zV', .bool zF, .bool zC] 67)
  have H5 := Lib.hid ((H5.out.below b3).below b4)
  have H6 := Lib.hid ((H6.out.below b3).below b4)
  have HB := Lib.hid (chain (chain HB.out b3) b4)
  have lz : w.heap.size + 2 ≤ w3.heap.size := Nat.le_trans lz b3.size
  clear b3 b4 m1 HK q1 q2
  have s0 := H5.out.cell 0 _ rfl
  have s1 := H5.out.cell 1 _ rfl
  have s2 := H5.out.cell 2 _ rfl
  have m3 := H6.out.cell 3 _ rfl
  have m4 := H6.out.cell 4 _ rfl
  go_upto_region 9 with fail
  generalize w3.alloc (.cells #[.bool zI, .bool zQ, .bool zV', .bool zF, .bool zC] 67) = W4 at *
  generalize w3.heap.size = p13 at *
  go_wp2_with fail
  refine (HFi.out _).mono ?_
  rintro e w5 ⟨rfl, b5⟩
  have H5 := Lib.hid (H5.out.below b5)
  have H6 := Lib.hid (H6.out.below b5)
  have HP := Lib.hid (HP.out.below b5)
  have HB := Lib.hid (chain HB.out b5)
  have lP : p13 < w5.heap.size := HP.out.lt
  clear b5 s0 s1 s2 m3 m4 HFi
  have s0 := H5.out.cell 0 _ rfl
  have p1 := HP.out.cell 1 _ rfl
  have p2 := HP.out.cell 2 _ rfl
  have m2 := H6.out.cell 2 _ rfl
  by_cases hv : zV' = true ∧ V0 ≠ 0
  · obtain ⟨rfl, hv0⟩ := hv
    have t1 : (V0 != 0) = true := by simpa using hv0
    have E' : smE M n g a N q = V0 := by rw [E.out, if_pos ⟨rfl, hv0⟩]
    have HV1 := Lib.hid hv0
    clear hv0
    go_wp2_with fail
    go_ret2
    exact rsmp_out E' HV1.out HB.out
  have E' : Hid (smE M n g a N q = 0) := Lib.hid (by rw [E.out, if_neg hv])
  have HV : Hid (zV' = false ∨ V0 = 0) := Lib.hid (by cases zV' <;> simp_all)
  clear hv E
  go_upto_region 10 with fail
  go_cut [83] (fun u wx => u = .bool false ∧ wx = w5)
  case first =>
    cases zV' with
    | false => (go_wp2_with fail; go_meet; exact ⟨rfl, rfl⟩)
    | true =>
      have t1 : (V0 != 0) = false := by simpa using HV.out
      go_wp2_with fail
      go_meet
      exact ⟨rfl, rfl⟩
  case rest =>
  obtain ⟨rfl, rfl⟩ := hcut
  have HQ : Hid ((if zQ = true then M.qt else q) = qq M q) := Lib.hid (by unfold qq; rw [HzQ.out])
  have hqq := qq_ok HE.out HQ0.out
  have hok3 := (ok_parts HE.out).2.2
  have hxy := ok_xy HE.out
  have hv0 : Mo.vE n g a M.x M.y = 0 := by
    cases h : zV' with
    | false =>
      obtain ⟨e1, e2⟩ := hxy.2.2.1 (by rw [HzV.out, h])
      rw [e1, e2]; exact v00 HCE.out
    | true =>
      rcases HV.out with h2 | h2
      · rw [h] at h2; cases h2
      · rw [HV0.out, h2]
  have hfa : ∀ i, 0 ≤ aF N f i ∧ aF N f i ≤ 255 := fun i => by
    unfold aF
    split
    · show (0 : Int) ≤ 128 ∧ (128 : Int) ≤ 255; omega
    · exact HF.out i
  have haN : ((aN N n : Nat) : Int) = zV n := by
    have hc := HCE.out
    unfold aN
    rcases HNZ.out with h | h
    · rw [if_pos h]; rcases cE_n hc with rfl | rfl <;> rfl
    · rw [if_neg (fun h0 => by subst h0; rcases cE_n hc with rfl | rfl <;> simp [zV] at h)]; exact h
  have HAh := Lib.hid (fun V h => rahead_any fa N fc f n V h)
  have HPR : Hid (zI = false → ∀ (k : Nat) (V : World) (vf : Value), k < 6 → Sl .u8 V vf (aN N n) (aF N f) → Calls Tryz.prog 66 #[vf, sp n g a, mv M vb, .int .i64 ((k : Int) + 1), .agg #[.bool false, .bool zQ, .bool zV', .bool zF, .bool zC]] V fun e w' => ∃ v, e = .returned v ∧ Res .u8 V.heap.size w' v 64 (pP M n g a (aF N f) k) ∧ Below V.heap.size V w') := Lib.hid (fun h k V vf hk hs => by
    have := rpred_any M vb vf (aN N n) (aF N f) n g a k zQ zV' zC V hs hfa hk HCE.out haN hv0 hxy.1 hxy.2.1 (by rw [HI.out, h])
    rw [HzF.out] at this
    exact this)
  have HRS : Hid (∀ (V : World) (j : Nat), j < M.m → Pl V (.slice (M.q j) (M.nn j) (M.cc j)) (M.nn j) (M.r j) (M.l j) → M.nn j ≤ 1000 →
      Calls Tryz.prog 67 #[bv (M.dc j) (M.q j) (M.nn j) (M.cc j), .int .i64 (qq M q), .bool (pI M.kd)] V fun e w' => ∃ v, e = .returned (.tuple #[v, .int .i64 0]) ∧ Res .i64 V.heap.size w' v 64 (Co.invC (wF (M.dc j) (M.nn j) (M.r j) (M.l j) (pI M.kd) (qq M q))) ∧ Below V.heap.size V w') := Lib.hid (fun V j hj hp hn => by
    have := rResidue_any (M.dc j) (M.q j) (M.nn j) (M.cc j) (M.r j) (M.l j) (pI M.kd) (qq M q) hn V hp
    have e0 : rsE (M.dc j) (M.nn j) (M.r j) (M.l j) (pI M.kd) (qq M q) = 0 := by
      unfold rsE
      rw [if_neg (by rw [hok3 j hj]; simp), if_neg (by omega)]
    rw [e0, show rsN (M.dc j) (M.nn j) (M.r j) (M.l j) (pI M.kd) (qq M q) = 64 from if_pos e0] at this
    exact this)
  have hokR : ∀ j, Pa.okR (Co.invC (wF (M.dc j) (M.nn j) (M.r j) (M.l j) (pI M.kd) (qq M q))) 64 := fun j t ht => by
    have := inv_small _ (ok_v _ (wF_bd (M.dc j) (M.nn j) (M.r j) (M.l j) (pI M.kd) (qq M q) hqq.1)) t ht
    omega
  have HAD : Hid (∀ (V : World) (i j : Nat) (va vr : Value), Sl .u8 V va 64 (pP M n g a (aF N f) i) → Sl .i64 V vr 64 (Co.invC (wF (M.dc j) (M.nn j) (M.r j) (M.l j) (pI M.kd) (qq M q))) →
      Calls Tryz.prog 69 #[va, vr] V fun e w' => ∃ v, e = .returned (.tuple #[v, .int .i64 0]) ∧ Res .u8 V.heap.size w' v 64 (Pa.addF (pP M n g a (aF N f) i) (Co.invC (wF (M.dc j) (M.nn j) (M.r j) (M.l j) (pI M.kd) (qq M q)))) ∧ Below V.heap.size V w') := Lib.hid (fun V i j va vr h1 h2 => by
    have := Pa.rAdd_any va vr 64 64 _ _ V h1 h2 (fun t _ => pP_bd M n g a hfa i t)
    have e0 : Pa.addE 64 64 (Co.invC (wF (M.dc j) (M.nn j) (M.r j) (M.l j) (pI M.kd) (qq M q))) = 0 := by
      unfold Pa.addE
      rw [if_neg (by omega), if_pos (hokR j)]
    rw [e0, show Pa.addN 64 64 (Co.invC (wF (M.dc j) (M.nn j) (M.r j) (M.l j) (pI M.kd) (qq M q))) = 64 from if_pos e0] at this
    exact this)
  have HFL : Hid (∀ (V : World) (j : Nat) (vr : Value), Sl .i64 V vr 64 (Co.invC (wF (M.dc j) (M.nn j) (M.r j) (M.l j) (pI M.kd) (qq M q))) →
      Calls Tryz.prog 68 #[vr] V fun e w' => ∃ v, e = .returned (.tuple #[v, .int .i64 0]) ∧ Res .u8 V.heap.size w' v 64 (Pa.addF (fun _ => 0) (Co.invC (wF (M.dc j) (M.nn j) (M.r j) (M.l j) (pI M.kd) (qq M q)))) ∧ Below V.heap.size V w') := Lib.hid (fun V j vr h2 => by
    have := Pa.rFlat_any vr 64 _ V h2
    have e0 : Pa.addE 64 64 (Co.invC (wF (M.dc j) (M.nn j) (M.r j) (M.l j) (pI M.kd) (qq M q))) = 0 := by
      unfold Pa.addE
      rw [if_neg (by omega), if_pos (hokR j)]
    rw [e0, show Pa.addN 64 64 (Co.invC (wF (M.dc j) (M.nn j) (M.r j) (M.l j) (pI M.kd) (qq M q))) = 64 from if_pos e0] at this
    exact this)
  have HPI : Hid (zI = true → ∀ i, pP M n g a (aF N f) i = fun _ => 0) := Lib.hid (fun h i => by unfold pP; rw [if_pos (by rw [HI.out, h])])
  have HIH : Hid (zI = true → ∀ i : Nat, i < 6 → hasP M.pt ((i : Int) + 1) = true) := Lib.hid (fun h => all_has HE.out (by rw [HI.out, h]))
  obtain ⟨J, hJ⟩ : ∃ J, jj M.pt = J := ⟨_, rfl⟩
  have J0 : Hid (J 0 = 0) := Lib.hid (by rw [← hJ]; rfl)
  have HJB : Hid (∀ i : Nat, J i ≤ i) := Lib.hid (by rw [← hJ]; exact fun i => by have := cntP_bd M.pt i; unfold jj; omega)
  have HJL : Hid (∀ i : Nat, i < 6 → hasP M.pt ((i : Int) + 1) = true → J i < M.m) := Lib.hid (by rw [← hJ]; exact fun i => jj_lt HE.out i)
  have HJ1 : Hid (∀ i : Nat, hasP M.pt ((i : Int) + 1) = true → J (i + 1) = J i + 1) := Lib.hid (by rw [← hJ]; exact fun i => jj_step M.pt i)
  have HJ2 : Hid (∀ i : Nat, hasP M.pt ((i : Int) + 1) = false → J (i + 1) = J i) := Lib.hid (by rw [← hJ]; exact fun i => jj_stay M.pt i)
  obtain ⟨PP, hPP⟩ : ∃ PP, pP M n g a (aF N f) = PP := ⟨_, rfl⟩
  obtain ⟨Q, hQQ⟩ : ∃ Q, qq M q = Q := ⟨_, rfl⟩
  obtain ⟨RJ, hRJ⟩ : ∃ RJ : Nat → Nat → Int, (fun j => Co.invC (wF (M.dc j) (M.nn j) (M.r j) (M.l j) (pI M.kd) Q)) = RJ := ⟨_, rfl⟩
  have hRJ' : ∀ j, Co.invC (wF (M.dc j) (M.nn j) (M.r j) (M.l j) (pI M.kd) Q) = RJ j := fun j => by rw [← hRJ]
  obtain ⟨SS, hSS⟩ : ∃ SS, smp M n g a (aF N f) q = SS := ⟨_, rfl⟩
  have HSY : Hid (∀ i : Nat, hasP M.pt ((i : Int) + 1) = true → SS i = Pa.addF (PP i) (RJ (J i))) := Lib.hid (fun i h => by
    rw [← hSS]; unfold smp; rw [if_pos h, hPP]; unfold rR; rw [hQQ, hJ, hRJ'])
  have HSN : Hid (∀ i : Nat, hasP M.pt ((i : Int) + 1) = false → SS i = PP i) := Lib.hid (fun i h => by
    rw [← hSS]; unfold smp; rw [if_neg (by simp [h]), hPP])
  rw [hPP] at HPR HPI HAD
  rw [hQQ] at HRS HAD HFL HQ
  simp only [hRJ'] at HRS HAD HFL
  rw [HI.out] at HRS
  have HSS := Lib.hid hSS
  obtain ⟨F0, hF0⟩ : ∃ F, aF N f = F := ⟨_, rfl⟩
  obtain ⟨N0, hN0⟩ : ∃ x, aN N n = x := ⟨_, rfl⟩
  rw [hF0, hN0] at HPR HAh
  clear hJ hPP hQQ hRJ hRJ' hSS hF0 hN0 hxy hv0 hfa haN hqq hok3 hokR HF HCE HE HNZ HV HV0 HI HzQ HzV HzF HQ0
  clear p2
  go_upto_if 86 with fail
  go_cut [3] (fun u wx => u = .int .i64 Q ∧ wx = wc)
  case first =>
    have HQ := HQ.out
    cases zQ with
    | true => (go_wp2_with fail; go_meet; exact ⟨by rw [← HQ]; rfl, rfl⟩)
    | false => (go_wp2_with fail; go_meet; exact ⟨by rw [← HQ]; rfl, rfl⟩)
  case rest =>
  obtain ⟨rfl, rfl⟩ := hcut
  clear HQ m2 p1
  have HSl1 := Lib.hid (HSl.out.below HB.out)
  go_wp2_with fail
  refine (HAh.out _ HSl1.out).mono ?_
  rintro e w6 ⟨vf, rfl, hSl, _, b6⟩
  have HPic := Lib.hid hSl
  have G5 := Lib.hid (H5.out.below b6)
  have G6 := Lib.hid (H6.out.below b6)
  have GP := Lib.hid (HP.out.below b6)
  have GB := Lib.hid (chain HB.out b6)
  clear hSl b6 s0 HSl HSl1 HAh
  have HA6 := Lib.hid (HA.out.below GB.out)
  obtain ⟨qa, ca, hvb, _, _, hbl⟩ := id HA6.out
  subst hvb
  have HBl := Lib.hid hbl
  clear hbl HA HA6
  have zB := GB.out.size
  obtain ⟨i0, hi, hz0, hz1, hz2⟩ := info_parts info_bytes
  go_wp2_with fail
  go_loopw [18, 17, 16] (fun x j o wr => ∃ (k : Nat) (V : Nat → Value), k ≤ 6 ∧ x = .int .i64 ((k : Int) + 1) ∧ j = .int .i64 ((J k : Nat) : Int) ∧ Hid (Out wr.heap.size w6.heap.size wr o k V SS) ∧ Hid (Below w6.heap.size w6 wr)) (fun x _ _ _ => 7 - (intOf x).toNat)
  case atStart => exact ⟨0, fun _ => undef, by omega, rfl, by rw [J0.out]; rfl, Lib.hid ⟨World.ownsRow_nil _ _ _ _, fun i hi => by omega, fun _ => rfl, Nat.le_refl _, fun i hi => by omega, fun i hi => by omega⟩, Lib.hid (Below.refl _ _)⟩
  case round =>
    obtain ⟨k, V, hk, rfl, rfl, HO, HBB⟩ := hrel
    by_cases hk6 : k < 6
    · have kb : (k : Int) + 1 ≤ 6 := by omega
      have ek : IntKind.i64.wrap ((k : Int) + 1 + 1) = (k : Int) + 1 + 1 := IntWalk.i64_in _ (by omega)
      have hj6 := HJB.out k
      have ej : IntKind.i64.wrap (((J k : Nat) : Int) + 1) = ((J k : Nat) : Int) + 1 := IntWalk.i64_in _ (by omega)
      have HHas := Lib.hid (fun V => rHas_any M.pt ((k : Int) + 1) V (by omega))
      have HSp := Lib.hid (G5.out.below HBB.out)
      have HMa := Lib.hid (G6.out.below HBB.out)
      have HPa := Lib.hid (GP.out.below HBB.out)
      have sz6 := HBB.out.size
      have m5 := HMa.out.cell 5 _ rfl
      have p0 := HPa.out.cell 0 _ rfl
      cases zI with
      | true =>
        have hh := HIH.out rfl k hk6
        have HPk := Lib.hid (HPI.out rfl k)
        have hlt := HJL.out k hk6 hh
        have HJS := Lib.hid (HJ1.out k hh)
        have HSM := Lib.hid (HSY.out k hh)
        have HH := Lib.hid hh
        rcases HBl.out with h0 | ⟨b, o, rfl, hI⟩
        · omega
        obtain ⟨d1, d2, hp, hn⟩ := hI (J k) hlt
        have D1 := Lib.hid d1
        have D2 := Lib.hid d2
        have DP := Lib.hid hp
        have DN := Lib.hid hn
        have lb := World.block_lt_of_cell? _ _ d1
        have kj : (0 : Int) ≤ ((J k : Nat) : Int) ∧ ((J k : Nat) : Int) < (M.m : Int) := by omega
        clear d1 d2 hp hn hI hh
        go_upto_region 25 with (go_at_call 65; refine (HHas.out _).mono ?_; rintro e w2 ⟨rfl, rfl⟩; rw [HH.out])
        have HRR := Lib.hid (HRS.out wr.drew (J k) hlt (DP.out.below (HBB.out.drew)) DN.out)
        have m6 := HMa.out.cell 6 _ rfl
        have e1 := (HBB.out.cell (p := ⟨b, o + J k * 2, none⟩) lb).trans D1.out
        have e2 := (HBB.out.cell (p := ⟨b, o + J k * 2 + 1, none⟩) lb).trans D2.out
        have lb2 := World.block_lt_of_cell? _ _ e1
        have lp := HPa.out.lt
        have lm := HMa.out.lt
        have sz7 := HBB.out.size
        go_region_held3 (fun w' => w'.cell? ⟨w.heap.size + 1, 6, none⟩ = some (.slice (some ⟨b, o, none⟩) M.m ca) ∧ w'.cell? ⟨b, o + J k * 2, none⟩ = some (.int .i64 (M.dc (J k))) ∧ w'.cell? ⟨b, o + J k * 2 + 1, none⟩ = some (.slice (M.q (J k)) (M.nn (J k)) (M.cc (J k))) ∧ w'.cell? ⟨p13, 0, none⟩ = some (.bool true))
          (first | exact ⟨m6, e1, e2, p0⟩ | exact S3.out)
          (first | (go_at_call 67; refine HRR.out.mono ?_; rintro e w3 ⟨v3, rfl, hR3, b3⟩; have S3 := Lib.hid (And.intro ((b3.cell (p := ⟨w.heap.size + 1, 6, none⟩) lm).trans m6) (And.intro ((b3.cell (p := ⟨b, o + J k * 2, none⟩) lb2).trans e1) (And.intro ((b3.cell (p := ⟨b, o + J k * 2 + 1, none⟩) lb2).trans e2) ((b3.cell (p := ⟨p13, 0, none⟩) lp).trans p0)))); have HR3 := Lib.hid hR3; have b3' := chain (Below.refl wr.heap.size wr).drew b3; have HO := Lib.hid (HO.out.below b3'); have HBB := Lib.hid (chain HBB.out b3'); clear hR3 b3 b3'))
        clear m6 e1 e2 p0 m5
        have p0 := S3.out.2.2.2
        have sz9 := HBB.out.size
        go_wp2_with (first
          | (go_at_call 68; go_loud (refine (HFL.out _ (J k) _ HR3.out.sl).mono ?_; rintro e w4 ⟨v4, rfl, hR4, b4⟩; rcases hR4 with ⟨h0, _⟩ | ⟨g4, c4, rfl, r1, r2, r3, r4, r5⟩; (exact absurd h0 (by decide)); have HG4 : Hid (wr.heap.size ≤ blk (.slice (some ⟨g4, 0, none⟩) 64 c4)) := Lib.hid (Nat.le_trans HO.out.le r1); have HV : Hid (Res .u8 w6.heap.size w4 (.slice (some ⟨g4, 0, none⟩) 64 c4) 64 (SS k)) := Lib.hid (by rw [HSM.out, HPk.out]; exact .inr ⟨g4, c4, rfl, by omega, r2, r3, r4, r5⟩); have HO := Lib.hid (HO.out.below b4); have HBB := Lib.hid (chain HBB.out b4); have sz8 := HBB.out.size; clear b4 r1 r2 r3 r4 r5 p0))
          | (at_builtin; refine wpList_append_own _ rfl _ _ 33 rfl w6.heap.size 30 i0 (.slice none 0 0) 1 24 Tryz.underlying33 hi hz0 hz1 hz2 rfl (by decide) _ _ _ rfl (HO.out.own.alloc _) ⟨w4.heap.size, 0, none⟩ 1 1 [.slice (some ⟨g4, 0, none⟩) 64 c4] rfl rfl (cell_one_new _ _ _) (by simp [Value.oneCell']) (by unfold maxLen; omega) (by omega) (by simp; omega) ?_; intro v' w5 hown2 hgr hnil))
        have HB5 : Hid (Below w6.heap.size w6 w5) := Lib.hid ((HBB.out.alloc sz8 _).grown hgr (by simp; omega) (fun q hq => (HO.out.own.lt q hq).1))
        have HO5 := Lib.hid (HO.out.snoc HV.out HG4.out hown2 hgr)
        clear hown2 hgr hnil
        go_roundw
        case rel => exact ⟨k + 1, fun i => if i = k then .slice (some ⟨g4, 0, none⟩) 64 c4 else V i, by omega, by go_num, by rw [HJS.out]; rfl, HO5, HB5⟩
        case measure => simp [intOf]; omega
      | false =>
        have CALL := Lib.hid (fun V h => HPR.out rfl k V vf hk6 h)
        by_cases hh : hasP M.pt ((k : Int) + 1) = true
        · skip
          have hlt := HJL.out k hk6 hh
          have HJS := Lib.hid (HJ1.out k hh)
          have HSM := Lib.hid (HSY.out k hh)
          have HH := Lib.hid hh
          rcases HBl.out with h0 | ⟨b, o, rfl, hI⟩
          · omega
          obtain ⟨d1, d2, hp, hn⟩ := hI (J k) hlt
          have D1 := Lib.hid d1
          have D2 := Lib.hid d2
          have DP := Lib.hid hp
          have DN := Lib.hid hn
          have lb := World.block_lt_of_cell? _ _ d1
          have kj : (0 : Int) ≤ ((J k : Nat) : Int) ∧ ((J k : Nat) : Int) < (M.m : Int) := by omega
          clear d1 d2 hp hn hI hh
          have s0 := HSp.out.cell 0 _ rfl
          have s1 := HSp.out.cell 1 _ rfl
          have s2 := HSp.out.cell 2 _ rfl
          have m0 := HMa.out.cell 0 _ rfl
          have m1 := HMa.out.cell 1 _ rfl
          have m2 := HMa.out.cell 2 _ rfl
          have m3 := HMa.out.cell 3 _ rfl
          have m4 := HMa.out.cell 4 _ rfl
          have m6 := HMa.out.cell 6 _ rfl
          have p1 := HPa.out.cell 1 _ rfl
          have p2 := HPa.out.cell 2 _ rfl
          have p3 := HPa.out.cell 3 _ rfl
          have p4 := HPa.out.cell 4 _ rfl
          have HPk := Lib.hid (HPic.out.below HBB.out)
          go_upto_region 24 with (first
            | (go_at_call 65; refine (HHas.out _).mono ?_; rintro e w2 ⟨rfl, rfl⟩; rw [HH.out])
            | (go_at_call 66; refine (CALL.out _ HPk.out).mono ?_; rintro e w1 ⟨v1, rfl, hR, b1⟩; have HR := Lib.hid (Res.base hR sz6); have HSp := Lib.hid (HSp.out.below b1); have HMa := Lib.hid (HMa.out.below b1); have HPa := Lib.hid (HPa.out.below b1); have HO := Lib.hid (HO.out.below b1); have HBB := Lib.hid (chain HBB.out b1); clear hR b1 s0 s1 s2 m0 m1 m2 m3 m4 m5 m6 p0 p1 p2 p3 p4; have p0 := HPa.out.cell 0 _ rfl))
          go_upto_region 25 with fail
          have HRR := Lib.hid (HRS.out w1.drew (J k) hlt (DP.out.below (HBB.out.drew)) DN.out)
          have m6 := HMa.out.cell 6 _ rfl
          have e1 := (HBB.out.cell (p := ⟨b, o + J k * 2, none⟩) lb).trans D1.out
          have e2 := (HBB.out.cell (p := ⟨b, o + J k * 2 + 1, none⟩) lb).trans D2.out
          have lb2 := World.block_lt_of_cell? _ _ e1
          have lp := HPa.out.lt
          have lm := HMa.out.lt
          have sz7 := HBB.out.size
          go_region_held3 (fun w' => w'.cell? ⟨w.heap.size + 1, 6, none⟩ = some (.slice (some ⟨b, o, none⟩) M.m ca) ∧ w'.cell? ⟨b, o + J k * 2, none⟩ = some (.int .i64 (M.dc (J k))) ∧ w'.cell? ⟨b, o + J k * 2 + 1, none⟩ = some (.slice (M.q (J k)) (M.nn (J k)) (M.cc (J k))) ∧ w'.cell? ⟨p13, 0, none⟩ = some (.bool false))
            (first | exact ⟨m6, e1, e2, p0⟩ | exact S3.out)
            (first | (go_at_call 67; refine HRR.out.mono ?_; rintro e w3 ⟨v3, rfl, hR3, b3⟩; have S3 := Lib.hid (And.intro ((b3.cell (p := ⟨w.heap.size + 1, 6, none⟩) lm).trans m6) (And.intro ((b3.cell (p := ⟨b, o + J k * 2, none⟩) lb2).trans e1) (And.intro ((b3.cell (p := ⟨b, o + J k * 2 + 1, none⟩) lb2).trans e2) ((b3.cell (p := ⟨p13, 0, none⟩) lp).trans p0)))); have HR3 := Lib.hid hR3; have b3' := chain (Below.refl w1.heap.size w1).drew b3; have HO := Lib.hid (HO.out.below b3'); have HR := Lib.hid (HR.out.below b3'); have HBB := Lib.hid (chain HBB.out b3'); clear hR3 b3 b3'))
          clear m6 e1 e2 p0
          have p0 := S3.out.2.2.2
          have sz9 := HBB.out.size
          have sz8 := HBB.out.size
          have HADD := Lib.hid (HAD.out _ k (J k) _ _ HR.out.sl HR3.out.sl)
          go_wp2_with (first
            | (go_at_call 69; go_loud (refine (HADD.out).mono ?_; rintro e w4 ⟨v4, rfl, hR4, b4⟩; rcases hR4 with ⟨h0, _⟩ | ⟨g4, c4, rfl, r1, r2, r3, r4, r5⟩; (exact absurd h0 (by decide)); have HG4 : Hid (wr.heap.size ≤ blk (.slice (some ⟨g4, 0, none⟩) 64 c4)) := Lib.hid (Nat.le_trans HO.out.le r1); have HV : Hid (Res .u8 w6.heap.size w4 (.slice (some ⟨g4, 0, none⟩) 64 c4) 64 (SS k)) := Lib.hid (by rw [HSM.out]; exact .inr ⟨g4, c4, rfl, by omega, r2, r3, r4, r5⟩); have HO := Lib.hid (HO.out.below b4); have HBB := Lib.hid (chain HBB.out b4); have sz8 := HBB.out.size; clear b4 r1 r2 r3 r4 r5 p0))
            | (at_builtin; refine wpList_append_own _ rfl _ _ 33 rfl w6.heap.size 30 i0 (.slice none 0 0) 1 24 Tryz.underlying33 hi hz0 hz1 hz2 rfl (by decide) _ _ _ rfl (HO.out.own.alloc _) ⟨w4.heap.size, 0, none⟩ 1 1 [.slice (some ⟨g4, 0, none⟩) 64 c4] rfl rfl (cell_one_new _ _ _) (by simp [Value.oneCell']) (by unfold maxLen; omega) (by omega) (by simp; omega) ?_; intro v' w5 hown2 hgr hnil))
          have HB5 : Hid (Below w6.heap.size w6 w5) := Lib.hid ((HBB.out.alloc sz8 _).grown hgr (by simp; omega) (fun q hq => (HO.out.own.lt q hq).1))
          have HO5 := Lib.hid (HO.out.snoc HV.out HG4.out hown2 hgr)
          clear hown2 hgr hnil
          go_roundw
          case rel => exact ⟨k + 1, fun i => if i = k then .slice (some ⟨g4, 0, none⟩) 64 c4 else V i, by omega, by go_num, by rw [HJS.out]; rfl, HO5, HB5⟩
          case measure => simp [intOf]; omega
        · have hh : hasP M.pt ((k : Int) + 1) = false := by simpa using hh
          have HJS := Lib.hid (HJ2.out k hh)
          have HSM := Lib.hid (HSN.out k hh)
          have HH := Lib.hid hh
          clear hh
          have s0 := HSp.out.cell 0 _ rfl
          have s1 := HSp.out.cell 1 _ rfl
          have s2 := HSp.out.cell 2 _ rfl
          have m0 := HMa.out.cell 0 _ rfl
          have m1 := HMa.out.cell 1 _ rfl
          have m2 := HMa.out.cell 2 _ rfl
          have m3 := HMa.out.cell 3 _ rfl
          have m4 := HMa.out.cell 4 _ rfl
          have m6 := HMa.out.cell 6 _ rfl
          have p1 := HPa.out.cell 1 _ rfl
          have p2 := HPa.out.cell 2 _ rfl
          have p3 := HPa.out.cell 3 _ rfl
          have p4 := HPa.out.cell 4 _ rfl
          have HPk := Lib.hid (HPic.out.below HBB.out)
          go_wp2_with (first
            | (go_at_call 65; refine (HHas.out _).mono ?_; rintro e w2 ⟨rfl, rfl⟩; rw [HH.out])
            | (go_at_call 66; refine (CALL.out _ HPk.out).mono ?_; rintro e w1 ⟨v1, rfl, hR, b1⟩; rcases hR with ⟨h0, _⟩ | ⟨g4, c4, rfl, r1, r2, r3, r4, r5⟩; (exact absurd h0 (by decide)); have HG4 : Hid (wr.heap.size ≤ blk (.slice (some ⟨g4, 0, none⟩) 64 c4)) := Lib.hid r1; have r1 := Nat.le_trans sz6 r1; have HV : Hid (Res .u8 w6.heap.size w1 (.slice (some ⟨g4, 0, none⟩) 64 c4) 64 (SS k)) := Lib.hid (by rw [HSM.out]; exact .inr ⟨g4, c4, rfl, r1, r2, r3, r4, r5⟩); have HSp := Lib.hid (HSp.out.below b1); have HMa := Lib.hid (HMa.out.below b1); have HPa := Lib.hid (HPa.out.below b1); have HO := Lib.hid (HO.out.below b1); have HBB := Lib.hid (chain HBB.out b1); have sz8 := HBB.out.size; clear b1 r1 r2 r3 r4 r5 s0 s1 s2 m0 m1 m2 m3 m4 m5 m6 p0 p1 p2 p3 p4)
            | (at_builtin; refine wpList_append_own _ rfl _ _ 33 rfl w6.heap.size 30 i0 (.slice none 0 0) 1 24 Tryz.underlying33 hi hz0 hz1 hz2 rfl (by decide) _ _ _ rfl (HO.out.own.alloc _) ⟨w1.heap.size, 0, none⟩ 1 1 [.slice (some ⟨g4, 0, none⟩) 64 c4] rfl rfl (cell_one_new _ _ _) (by simp [Value.oneCell']) (by unfold maxLen; omega) (by omega) (by simp; omega) ?_; intro v' w5 hown2 hgr hnil))
          have HB5 : Hid (Below w6.heap.size w6 w5) := Lib.hid ((HBB.out.alloc sz8 _).grown hgr (by simp; omega) (fun q hq => (HO.out.own.lt q hq).1))
          have HO5 := Lib.hid (HO.out.snoc HV.out HG4.out hown2 hgr)
          clear hown2 hgr hnil
          go_roundw
          case rel => exact ⟨k + 1, fun i => if i = k then .slice (some ⟨g4, 0, none⟩) 64 c4 else V i, by omega, by go_num, by rw [HJS.out], HO5, HB5⟩
          case measure => simp [intOf]; omega
    · have hk7 : k = 6 := by omega
      have kb : ¬ (k : Int) + 1 ≤ 6 := by omega
      clear hk hk6
      go_wp2_with fail
      go_ret2
      subst hk7
      exact rsmp_yes E'.out (by rw [HSS.out]; exact HO.out.six zB) (chain GB.out HBB.out)
theorem rSamples_any (hs : Sl .u8 w (.slice fa N fc) N f) (hf : ∀ i, 0 ≤ f i ∧ f i ≤ 255) (hb : M.at w vb) :
    Calls Tryz.prog 22 #[.slice fa N fc, sp n g a, mv M vb, .int .i64 q] w (rsmpPost M n g a N f q w) := by
  by_cases hc : cE n g a = 0
  · exact rsmp_on M vb fa N fc f n g a q w hs hf hc hb
  · refine (rsmp_no1 M vb fa N fc n g a q w hc).mono ?_
    rintro e w' ⟨rfl, h⟩
    exact rsmp_out (by unfold smE; rw [if_pos hc]) hc h
end
end Bu
end Go.Proofs.YtbmglemjfodfhaaGreat

namespace Go.Proofs.YtbmglemjfodfhaaGreat
open Go.RowKit
namespace Bu
open Bk Fr Pt Kd

section
set_option maxRecDepth 100000
set_option maxHeartbeats 4000000
set_option linter.unusedVariables false
variable (M : MB) (vb : Value) (b N R c : Nat) (fa : Option Addr) (NF fc : Nat) (f F : Nat → Int) (n g a q : Int) (w : World)
theorem rmac_no1 (hc : cE n g a ≠ 0) (ta : Option Addr) :
    Calls Tryz.prog 24 #[.slice ta N c, .slice fa NF fc, sp n g a, mv M vb, .int .i64 q] w fun e w' => e = .returned (.int .i64 (cE n g a)) ∧ Below w.heap.size w w' := by
  have HS := Lib.hid (fun V => Rf.rCorner_any n g a V)
  obtain ⟨E, hE⟩ : ∃ E, cE n g a = E := ⟨_, rfl⟩
  rw [hE] at HS hc
  rw [hE]
  have t1 : (E != 0) = true := by simpa using hc
  clear hc hE
  have HB := Lib.hid (((Below.refl w.heap.size w).alloc (Nat.le_refl _) (.cells #[.int .i64 n, .int .i64 g, .int .i64 a] 28)).alloc (by simp) (.cells #[.int .i64 M.ad, .int .i64 M.kd, .int .i64 M.qt, .int .i64 M.x, .int .i64 M.y, .int .i64 M.pt, vb] 24))
  have H5 : Hid (At _ _ _ _) := Lib.hid ((At.new w #[.int .i64 n, .int .i64 g, .int .i64 a] 28).below ((Below.refl _ _).alloc (Nat.le_refl _) (.cells #[.int .i64 M.ad, .int .i64 M.kd, .int .i64 M.qt, .int .i64 M.x, .int .i64 M.y, .int .i64 M.pt, vb] 24)))
  have k0 := H5.out.cell 0 _ rfl
  have k1 := H5.out.cell 1 _ rfl
  have k2 := H5.out.cell 2 _ rfl
  go_enter Tryz.func24, Tryz.ntmps24
  go_wp2_with (go_at_call 59; refine (HS.out _).mono ?_; rintro e w1 ⟨rfl, b1⟩; have HB := Lib.hid (chain HB.out b1); clear b1 H5 k0 k1 k2)
  go_ret
  exact ⟨rfl, HB.out⟩
theorem rmac_no2 (hc : cE n g a = 0) (hN : (N : Int) ≠ zV n) (ta : Option Addr) :
    Calls Tryz.prog 24 #[.slice ta N c, .slice fa NF fc, sp n g a, mv M vb, .int .i64 q] w fun e w' => e = .returned (.int .i64 2) ∧ Below w.heap.size w w' := by
  have HS := Lib.hid (fun V => Rf.rCorner_any n g a V)
  have HZ := Lib.hid (fun V => rsize_any n V)
  rw [hc] at HS
  obtain ⟨Z, hZ⟩ : ∃ Z, zV n = Z := ⟨_, rfl⟩
  rw [hZ] at HZ hN
  have t1 : ((N : Int) != Z) = true := by simpa using hN
  clear hc hZ hN
  have HB := Lib.hid (((Below.refl w.heap.size w).alloc (Nat.le_refl _) (.cells #[.int .i64 n, .int .i64 g, .int .i64 a] 28)).alloc (by simp) (.cells #[.int .i64 M.ad, .int .i64 M.kd, .int .i64 M.qt, .int .i64 M.x, .int .i64 M.y, .int .i64 M.pt, vb] 24))
  have H5 : Hid (At _ _ _ _) := Lib.hid ((At.new w #[.int .i64 n, .int .i64 g, .int .i64 a] 28).below ((Below.refl _ _).alloc (Nat.le_refl _) (.cells #[.int .i64 M.ad, .int .i64 M.kd, .int .i64 M.qt, .int .i64 M.x, .int .i64 M.y, .int .i64 M.pt, vb] 24)))
  have k0 := H5.out.cell 0 _ rfl
  have k1 := H5.out.cell 1 _ rfl
  have k2 := H5.out.cell 2 _ rfl
  go_enter Tryz.func24, Tryz.ntmps24
  go_wp2_with (first
    | (go_at_call 59; refine (HS.out _).mono ?_; rintro e w1 ⟨rfl, b1⟩; have HB := Lib.hid (chain HB.out b1); have k0 := (H5.out.below b1).cell 0 _ rfl; clear b1 H5 k1 k2)
    | (go_at_call 60; refine (HZ.out _).mono ?_; rintro e w2 ⟨rfl, rfl⟩))
  go_ret
  exact ⟨rfl, HB.out⟩
theorem rmac_no3 (hc : cE n g a = 0) (hN : (N : Int) = zV n) (ta : Option Addr) (hs : Sl .u8 w (.slice fa NF fc) NF F) (hf : ∀ i, 0 ≤ F i ∧ F i ≤ 255) (hb : M.at w vb) (he : smE M n g a NF q ≠ 0) :
    Calls Tryz.prog 24 #[.slice ta N c, .slice fa NF fc, sp n g a, mv M vb, .int .i64 q] w fun e w' => e = .returned (.int .i64 (smE M n g a NF q)) ∧ Below w.heap.size w w' := by
  have HS := Lib.hid (fun V => Rf.rCorner_any n g a V)
  have HZ := Lib.hid (fun V => rsize_any n V)
  have HM := Lib.hid (fun V h1 h2 => rSamples_any M vb fa NF fc F n g a q V h1 hf h2)
  unfold rsmpPost at HM
  rw [hc] at HS
  obtain ⟨Z, hZ⟩ : ∃ Z, zV n = Z := ⟨_, rfl⟩
  rw [hZ] at HZ hN
  obtain ⟨E, hE⟩ : ∃ E, smE M n g a NF q = E := ⟨_, rfl⟩
  rw [hE] at HM he ⊢
  have t1 : ((N : Int) != Z) = false := by simp [hN]
  have t2 : (E != 0) = true := by simpa using he
  clear hc hZ hN hE he hf
  have HB := Lib.hid (((Below.refl w.heap.size w).alloc (Nat.le_refl _) (.cells #[.int .i64 n, .int .i64 g, .int .i64 a] 28)).alloc (by simp) (.cells #[.int .i64 M.ad, .int .i64 M.kd, .int .i64 M.qt, .int .i64 M.x, .int .i64 M.y, .int .i64 M.pt, vb] 24))
  have HS1 := Lib.hid (hs.below HB.out)
  have HA1 := Lib.hid (hb.below HB.out)
  have H5 : Hid (At _ _ _ _) := Lib.hid ((At.new w #[.int .i64 n, .int .i64 g, .int .i64 a] 28).below ((Below.refl _ _).alloc (Nat.le_refl _) (.cells #[.int .i64 M.ad, .int .i64 M.kd, .int .i64 M.qt, .int .i64 M.x, .int .i64 M.y, .int .i64 M.pt, vb] 24)))
  have H6 : Hid (At _ _ _ _) := Lib.hid (At.new (w.alloc (.cells #[.int .i64 n, .int .i64 g, .int .i64 a] 28)) #[.int .i64 M.ad, .int .i64 M.kd, .int .i64 M.qt, .int .i64 M.x, .int .i64 M.y, .int .i64 M.pt, vb] 24)
  simp only [World.size_alloc] at H6
  have k0 := H5.out.cell 0 _ rfl
  have k1 := H5.out.cell 1 _ rfl
  have k2 := H5.out.cell 2 _ rfl
  clear hs hb
  go_enter Tryz.func24, Tryz.ntmps24
  go_upto_region 6 with (first
    | (go_at_call 59; refine (HS.out _).mono ?_; rintro e w1 ⟨rfl, b1⟩; have HB := Lib.hid (chain HB.out b1); have HS1 := Lib.hid (HS1.out.below b1); have HA1 := Lib.hid (HA1.out.below b1); have H5 := Lib.hid (H5.out.below b1); have H6 := Lib.hid (H6.out.below b1); clear b1 k0 k1 k2; have k0 := H5.out.cell 0 _ rfl)
    | (go_at_call 60; refine (HZ.out _).mono ?_; rintro e w2 ⟨rfl, rfl⟩))
  have k0 := H5.out.cell 0 _ rfl
  have k1 := H5.out.cell 1 _ rfl
  have k2 := H5.out.cell 2 _ rfl
  have m0 := H6.out.cell 0 _ rfl
  have m1 := H6.out.cell 1 _ rfl
  have m2 := H6.out.cell 2 _ rfl
  have m3 := H6.out.cell 3 _ rfl
  have m4 := H6.out.cell 4 _ rfl
  have m5 := H6.out.cell 5 _ rfl
  have m6 := H6.out.cell 6 _ rfl
  go_wp2_with (go_at_call 22; refine (HM.out _ HS1.out HA1.out).mono ?_; rintro e w2 ⟨v, rfl, _, _, b2⟩; have HB := Lib.hid (chain HB.out b2); clear b2 k0 k1 k2 m0 m1 m2 m3 m4 m5 m6)
  go_ret
  exact ⟨rfl, HB.out⟩
theorem rmac_yes (hA : Arr w .u8 b R f) (hR : N ≤ R) (h0 : 0 < R) (hRN : (N : Int) = zV n → R = N) (hc : cE n g a = 0) (hN : (N : Int) = zV n) (hs : Sl .u8 w (.slice fa NF fc) NF F) (hf : ∀ i, 0 ≤ F i ∧ F i ≤ 255) (hb : M.at w vb) (he : smE M n g a NF q = 0) :
    Calls Tryz.prog 24 #[.slice (some ⟨b, 0, none⟩) N c, .slice fa NF fc, sp n g a, mv M vb, .int .i64 q] w fun e w' => e = .returned (.int .i64 0) ∧ Arr w' .u8 b R (layS n g a (smp M n g a (aF NF F) q) f 6) ∧ w.grownBy w' (some b) := by
  have HS := Lib.hid (fun V => Rf.rCorner_any n g a V)
  have HZ := Lib.hid (fun V => rsize_any n V)
  have HM := Lib.hid (fun V h1 h2 => rSamples_any M vb fa NF fc F n g a q V h1 hf h2)
  unfold rsmpPost at HM
  rw [hc] at HS
  have hblt := hA.lt h0
  have HL : Hid (∀ (k : Nat) (V : World) (G : Nat → Int) (rg rc : Nat) (s : Nat → Int), k < 6 → Arr V .u8 b R G → Sl .u8 V (.slice (some ⟨rg, 0, none⟩) 64 rc) 64 s → b < rg →
      Calls Tryz.prog 70 #[.slice (some ⟨b, 0, none⟩) N c, .agg #[.int .i64 n, .int .i64 g, .int .i64 a], .int .i64 ((k : Int) + 1), .slice (some ⟨rg, 0, none⟩) 64 rc] V fun e w' => e = .returned (.int .i64 0) ∧ Arr w' .u8 b R (Pa.layN (pA n g a ((k : Int) + 1)).toNat (pS n g a ((k : Int) + 1)).toNat s G 64) ∧ V.grownBy w' (some b)) := Lib.hid (fun k V G rg rc s hk h1 h2 h3 => by
    have e0 := Pa.layE_ok (k := (k : Int) + 1) hc hN (rfl : (64 : Nat) = 64) (by omega)
    have := Pa.rLay_any b N R c (some ⟨rg, 0, none⟩) 64 rc G s n g a ((k : Int) + 1) V h1 hR h0 h2 (fun _ x e => by cases e; simp; omega) hRN
    rw [e0] at this
    refine this.mono ?_
    rintro e w' ⟨h4, h5, h6⟩
    unfold Pa.layG at h5
    rw [if_pos e0] at h5
    exact ⟨h4, h5, h6⟩)
  obtain ⟨S, hS⟩ : ∃ S, smp M n g a (aF NF F) q = S := ⟨_, rfl⟩
  obtain ⟨Z, hZ⟩ : ∃ Z, zV n = Z := ⟨_, rfl⟩
  rw [hZ] at HZ hN
  rw [he, hS] at HM
  rw [hS]
  have t1 : ((N : Int) != Z) = false := by simp [hN]
  clear hc hZ hN he hf hS hRN
  have HB := Lib.hid (((Below.refl w.heap.size w).alloc (Nat.le_refl _) (.cells #[.int .i64 n, .int .i64 g, .int .i64 a] 28)).alloc (by simp) (.cells #[.int .i64 M.ad, .int .i64 M.kd, .int .i64 M.qt, .int .i64 M.x, .int .i64 M.y, .int .i64 M.pt, vb] 24))
  have HS1 := Lib.hid (hs.below HB.out)
  have HA1 := Lib.hid (hb.below HB.out)
  have H5 : Hid (At _ _ _ _) := Lib.hid ((At.new w #[.int .i64 n, .int .i64 g, .int .i64 a] 28).below ((Below.refl _ _).alloc (Nat.le_refl _) (.cells #[.int .i64 M.ad, .int .i64 M.kd, .int .i64 M.qt, .int .i64 M.x, .int .i64 M.y, .int .i64 M.pt, vb] 24)))
  have H6 : Hid (At _ _ _ _) := Lib.hid (At.new (w.alloc (.cells #[.int .i64 n, .int .i64 g, .int .i64 a] 28)) #[.int .i64 M.ad, .int .i64 M.kd, .int .i64 M.qt, .int .i64 M.x, .int .i64 M.y, .int .i64 M.pt, vb] 24)
  simp only [World.size_alloc] at H6
  have HP := Lib.hid hA
  have k0 := H5.out.cell 0 _ rfl
  have k1 := H5.out.cell 1 _ rfl
  have k2 := H5.out.cell 2 _ rfl
  clear hs hb hA
  go_enter Tryz.func24, Tryz.ntmps24
  go_upto_region 6 with (first
    | (go_at_call 59; refine (HS.out _).mono ?_; rintro e w1 ⟨rfl, b1⟩; have HB := Lib.hid (chain HB.out b1); have HS1 := Lib.hid (HS1.out.below b1); have HA1 := Lib.hid (HA1.out.below b1); have H5 := Lib.hid (H5.out.below b1); have H6 := Lib.hid (H6.out.below b1); clear b1 k0 k1 k2; have k0 := H5.out.cell 0 _ rfl)
    | (go_at_call 60; refine (HZ.out _).mono ?_; rintro e w2 ⟨rfl, rfl⟩))
  have k0 := H5.out.cell 0 _ rfl
  have k1 := H5.out.cell 1 _ rfl
  have k2 := H5.out.cell 2 _ rfl
  have m0 := H6.out.cell 0 _ rfl
  have m1 := H6.out.cell 1 _ rfl
  have m2 := H6.out.cell 2 _ rfl
  have m3 := H6.out.cell 3 _ rfl
  have m4 := H6.out.cell 4 _ rfl
  have m5 := H6.out.cell 5 _ rfl
  have m6 := H6.out.cell 6 _ rfl
  have hz1 := HB.out.size
  go_wp2_with (go_at_call 22; refine (HM.out _ HS1.out HA1.out).mono ?_; rintro e w2 ⟨v, rfl, hv, _, b2⟩; obtain ⟨sg, sc, V, rfl, v1, v2, v3, v4⟩ := (hv trivial).row; have HV := Lib.hid v4; have H5 := Lib.hid (H5.out.below b2); have HB := Lib.hid (chain HB.out b2); clear b2 hv v4 k0 k1 k2 m0 m1 m2 m3 m4 m5 m6)
  have HP2 := Lib.hid (HP.out.below HB.out hblt)
  have hne : w.heap.size ≠ b := by omega
  have hne2 : sg ≠ b := by omega
  have HV2 : Hid (∀ i, i < 6 → w2.cell? ⟨sg, i, none⟩ = some (.slice (some ⟨(V i).1, 0, none⟩) 64 (V i).2) ∧ b < (V i).1 ∧ Sl .u8 w2 (.slice (some ⟨(V i).1, 0, none⟩) 64 (V i).2) 64 (S i)) := Lib.hid (fun i hi => by
    obtain ⟨h1, h2, h3⟩ := HV.out i hi
    exact ⟨h1, by omega, h3⟩)
  clear HV HP HM HS HS1 HA1 H6 v1
  go_loopw [16] (fun x wr => ∃ k : Nat, k ≤ 6 ∧ x = .int .i64 k ∧ Hid (Arr wr .u8 b R (layS n g a S f k)) ∧ Hid (w2.grownBy wr (some b))) (fun x _ => 6 - (intOf x).toNat)
  case atStart => exact ⟨0, by omega, rfl, HP2, Lib.hid (grown_of_below (Below.refl _ _) _)⟩
  case round =>
    obtain ⟨k, hk, rfl, HP, HG⟩ := hrel
    by_cases hk6 : k < 6
    · have kb : (0 : Int) ≤ (k : Int) ∧ (k : Int) < 6 := by omega
      obtain ⟨c1, c2, c3⟩ := HV2.out k hk6
      have e1 := grown_cell HG.out (show some sg ≠ some b from fun e => hne2 (Option.some.inj e)) c1
      have H5 := Lib.hid (H5.out.kept HG.out (fun e => hne (Option.some.inj e)))
      have k0 := H5.out.cell 0 _ rfl
      have k1 := H5.out.cell 1 _ rfl
      have k2 := H5.out.cell 2 _ rfl
      have c3' := Sl.grown' c3 HG.out (fun _ x e e2 => by cases e; have := Option.some.inj e2; simp at this; omega)
      have bd := (Below.refl wr.heap.size wr).drew
      have CALL := Lib.hid (HL.out k wr.drew _ _ _ _ hk6 (HP.out.below bd (HP.out.lt h0)) (c3'.below bd) c2)
      have GD := Lib.hid (grown_trans HG.out (grown_of_below bd (some b)))
      have ek : IntKind.i64.wrap ((k : Int) + 1) = (k : Int) + 1 := IntWalk.i64_in _ (by omega)
      clear c1 c2 c3 c3' bd
      go_upto_region 12 with fail
      go_region_held3 (fun w' => w'.cell? ⟨w.heap.size, 0, none⟩ = some (.int .i64 n) ∧ w'.cell? ⟨w.heap.size, 1, none⟩ = some (.int .i64 g) ∧ w'.cell? ⟨w.heap.size, 2, none⟩ = some (.int .i64 a) ∧ w'.cell? ⟨sg, k, none⟩ = some (.slice (some ⟨(V k).1, 0, none⟩) 64 (V k).2))
        (first | exact ⟨k0, k1, k2, e1⟩ | exact S3.out)
        (first | (go_at_call 70; refine CALL.out.mono ?_; rintro e w3 ⟨rfl, a3, g3⟩; have S3 := Lib.hid (And.intro (grown_cell g3 (fun e => hne (Option.some.inj e)) k0) (And.intro (grown_cell g3 (fun e => hne (Option.some.inj e)) k1) (And.intro (grown_cell g3 (fun e => hne (Option.some.inj e)) k2) (grown_cell g3 (fun e => hne2 (Option.some.inj e)) e1)))); have HP3 := Lib.hid a3; have HG3 := Lib.hid (grown_trans GD.out g3); clear a3 g3))
      clear k0 k1 k2 e1
      go_wp2_with fail
      go_roundw
      case rel => exact ⟨k + 1, by omega, by go_num, HP3, HG3⟩
      case measure => simp [intOf]; omega
    · have kb : ¬ (k : Int) < 6 := by omega
      have hk7 : k = 6 := by omega
      clear hk hk6
      go_wp2_with fail
      go_ret
      subst hk7
      exact ⟨rfl, HP.out, grown_trans (grown_of_below HB.out _) HG.out⟩
theorem rMacro_any (hA : Arr w .u8 b R f) (hR : N ≤ R) (h0 : 0 < R) (hRN : (N : Int) = zV n → R = N) (hs : Sl .u8 w (.slice fa NF fc) NF F) (hf : ∀ i, 0 ≤ F i ∧ F i ≤ 255) (hb : M.at w vb) :
    Calls Tryz.prog 24 #[.slice (some ⟨b, 0, none⟩) N c, .slice fa NF fc, sp n g a, mv M vb, .int .i64 q] w fun e w' => e = .returned (.int .i64 (macE M n g a N NF q)) ∧ Arr w' .u8 b R (macF M n g a N NF q F f) ∧ w.grownBy w' (some b) := by
  have hblt := hA.lt h0
  have out : ∀ x, macE M n g a N NF q = x → x ≠ 0 → ∀ (e : Ending) (w' : World), e = .returned (.int .i64 x) ∧ Below w.heap.size w w' → e = .returned (.int .i64 (macE M n g a N NF q)) ∧ Arr w' .u8 b R (macF M n g a N NF q F f) ∧ w.grownBy w' (some b) := fun x hx hE e w' h => ⟨by rw [hx]; exact h.1, by unfold macF; rw [hx, if_neg hE]; exact hA.below h.2 hblt, grown_of_below h.2 _⟩
  by_cases hc : cE n g a = 0
  · by_cases hN : (N : Int) = zV n
    · have e0 : macE M n g a N NF q = smE M n g a NF q := by unfold macE; rw [if_neg (by omega), if_neg (by omega)]
      by_cases he : smE M n g a NF q = 0
      · refine (rmac_yes M vb b N R c fa NF fc f F n g a q w hA hR h0 hRN hc hN hs hf hb he).mono ?_
        rintro e w' ⟨h1, h2, h3⟩
        exact ⟨by rw [e0, he]; exact h1, by unfold macF; rw [e0, if_pos he]; exact h2, h3⟩
      · exact (rmac_no3 M vb N c fa NF fc F n g a q w hc hN _ hs hf hb he).mono (out _ e0 he)
    · exact (rmac_no2 M vb N c fa NF fc n g a q w hc hN _).mono (out 2 (by unfold macE; rw [if_neg (by omega), if_pos hN]) (by decide))
  · exact (rmac_no1 M vb N c fa NF fc n g a q w hc _).mono (out _ (by unfold macE; rw [if_pos hc]) hc)
theorem rSkip_any (hA : Arr w .u8 b R f) (h0 : 0 < R) (hRN : (N : Int) = zV n → R = N) (hs : Sl .u8 w (.slice fa NF fc) NF F) (hne : 0 < NF → ∀ x, fa = some x → x.block ≠ b) :
    Calls Tryz.prog 27 #[.slice (some ⟨b, 0, none⟩) N c, .slice fa NF fc, sp n g a] w fun e w' => e = .returned (.int .i64 (Pa.copE n g a N (aN NF n))) ∧ Arr w' .u8 b R (Pa.copG n g a N (aN NF n) (aF NF F) f) ∧ w.grownBy w' (some b) := by
  have hblt := hA.lt h0
  have HS := Lib.hid (fun V => Rf.rCorner_any n g a V)
  by_cases hc : cE n g a = 0
  · rw [hc] at HS
    have HH := Lib.hid (fun V h => rahead_any fa NF fc F n V h)
    have hz : aN NF n = 0 → False := fun h => by
      unfold aN at h
      by_cases h1 : NF = 0
      · rw [if_pos h1] at h
        rcases cE_n hc with rfl | rfl <;> simp [Pa.gryN, zV] at h
      · rw [if_neg h1] at h; exact h1 h
    have HC : Hid (∀ (V : World) (q : Option Addr) (d : Nat), Arr V .u8 b R f → Sl .u8 V (.slice q (aN NF n) d) (aN NF n) (aF NF F) → (0 < aN NF n → ∀ x, q = some x → x.block ≠ b) →
        Calls Tryz.prog 71 #[.slice (some ⟨b, 0, none⟩) N c, .slice q (aN NF n) d, .agg #[.int .i64 n, .int .i64 g, .int .i64 a]] V fun e w' => e = .returned (.int .i64 (Pa.copE n g a N (aN NF n))) ∧ Arr w' .u8 b R (Pa.copG n g a N (aN NF n) (aF NF F) f) ∧ V.grownBy w' (some b)) := Lib.hid (fun V q d h1 h2 h3 => Pa.rCopy_any b N R c q (aN NF n) d f (aF NF F) n g a V h1 h0 h2 h3 hRN)
    obtain ⟨N0, hN0⟩ : ∃ x, aN NF n = x := ⟨_, rfl⟩
    obtain ⟨F0, hF0⟩ : ∃ x, aF NF F = x := ⟨_, rfl⟩
    rw [hN0, hF0] at HH HC
    rw [hN0] at hz
    rw [hF0, hN0]
    obtain ⟨EC, hEC⟩ : ∃ x, Pa.copE n g a N N0 = x := ⟨_, rfl⟩
    obtain ⟨GC, hGC⟩ : ∃ x, Pa.copG n g a N N0 F0 f = x := ⟨_, rfl⟩
    rw [hEC, hGC] at HC
    rw [hEC, hGC]
    have HZ := Lib.hid hz
    clear hc hN0 hF0 hEC hGC hRN hz
    have HB := Lib.hid ((Below.refl w.heap.size w).alloc (Nat.le_refl _) (.cells #[.int .i64 n, .int .i64 g, .int .i64 a] 28))
    have H5 : Hid (At _ _ _ _) := Lib.hid (At.new w #[.int .i64 n, .int .i64 g, .int .i64 a] 28)
    have k0 := H5.out.cell 0 _ rfl
    have k1 := H5.out.cell 1 _ rfl
    have k2 := H5.out.cell 2 _ rfl
    have HS1 := Lib.hid (hs.below HB.out)
    have HP := Lib.hid hA
    clear hs hA
    go_enter Tryz.func27, Tryz.ntmps27
    go_upto_region 4 with (go_at_call 59; refine (HS.out _).mono ?_; rintro e w1 ⟨rfl, b1⟩; have HB := Lib.hid (chain HB.out b1); have HS1 := Lib.hid (HS1.out.below b1); have H5 := Lib.hid (H5.out.below b1); clear b1 k0 k1 k2)
    have HB := Lib.hid (HB.out.drew)
    have HS1 := Lib.hid (HS1.out.below (Below.refl _ _).drew)
    have H5 := Lib.hid (H5.out.below (Below.refl _ _).drew)
    have k0 := H5.out.cell 0 _ rfl
    have k1 := H5.out.cell 1 _ rfl
    have k2 := H5.out.cell 2 _ rfl
    have sz := HB.out.size
    go_region_with (first
      | (go_at_call 64; refine (HH.out _ HS1.out).mono ?_; rintro e w2 ⟨v, rfl, hS2, hd, b2⟩; obtain ⟨vq, vc, rfl, _, _, _⟩ := id hS2; have HS2 := Lib.hid hS2; have HD := Lib.hid hd; have HB := Lib.hid (chain HB.out b2); have k0 := (b2.cell (p := ⟨w.heap.size, 0, none⟩) H5.out.lt).trans k0; have k1 := (b2.cell (p := ⟨w.heap.size, 1, none⟩) H5.out.lt).trans k1; have k2 := (b2.cell (p := ⟨w.heap.size, 2, none⟩) H5.out.lt).trans k2; clear hS2 hd b2)
      | (go_at_call 71; refine (HC.out _ _ _ (HP.out.below HB.out hblt) HS2.out (fun hp x e => by
          rcases HD.out with h | h
          · cases h; exact hne hp x e
          · rcases h with ⟨h, _⟩ | ⟨gg, cc, h, h7, _⟩
            · omega
            · cases h; cases e; simp; omega)).mono ?_; rintro e w3 ⟨rfl, a3, g3⟩; have HP3 := Lib.hid a3; have HG3 := Lib.hid (grown_trans (grown_of_below HB.out (some b)) g3); clear a3 g3))
    all_goals (go_wp2_with fail; go_ret; exact ⟨rfl, HP3.out, HG3.out⟩)
  · have e1 : Pa.copE n g a N (aN NF n) = cE n g a := by unfold Pa.copE Pa.refE; rw [if_pos hc]
    unfold Pa.copG
    rw [e1, if_neg hc]
    obtain ⟨E, hE⟩ : ∃ E, cE n g a = E := ⟨_, rfl⟩
    rw [hE] at HS hc
    rw [hE]
    have t1 : (E != 0) = true := by simpa using hc
    clear hc hE e1
    have HB := Lib.hid ((Below.refl w.heap.size w).alloc (Nat.le_refl _) (.cells #[.int .i64 n, .int .i64 g, .int .i64 a] 28))
    have H5 : Hid (At _ _ _ _) := Lib.hid (At.new w #[.int .i64 n, .int .i64 g, .int .i64 a] 28)
    have k0 := H5.out.cell 0 _ rfl
    have k1 := H5.out.cell 1 _ rfl
    have k2 := H5.out.cell 2 _ rfl
    have HP := Lib.hid hA
    clear hs hA
    go_enter Tryz.func27, Tryz.ntmps27
    go_wp2_with (go_at_call 59; refine (HS.out _).mono ?_; rintro e w1 ⟨rfl, b1⟩; have HB := Lib.hid (chain HB.out b1); clear b1 H5 k0 k1 k2)
    go_ret
    exact ⟨rfl, HP.out.below HB.out hblt, grown_of_below HB.out _⟩
end
end Bu
end Go.Proofs.YtbmglemjfodfhaaGreat
