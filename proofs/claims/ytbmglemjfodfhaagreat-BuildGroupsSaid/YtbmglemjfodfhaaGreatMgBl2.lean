/- build.Samples of any arguments; build.Macro. | build.Macro, build.Skip of any arguments. | build's laws: the chapter's macroblock; lists of blocks that the call makes. | build's laws: the chapter's macroblock is built; awake. -/
import Derived.Test.YtbmglemjfodfhaaGreatMgBu4
import Derived.Test.YtbmglemjfodfhaaGreatMgPaG
import Derived.Test.YtbmglemjfodfhaaGreatMgScb
set_option linter.unusedVariables false
set_option linter.unusedSimpArgs false
namespace Go.Proofs.YtbmglemjfodfhaaGreat
open Go.RowKit
namespace Bu
open Bk Fr Pt Kd
theorem Samples_any (M : MB) (vb : Value) (fa : Option Addr) (N fc : Nat) (f : Nat → Int) (n g a q : Int) (w : World) (hs : Sl .u8 w (.slice fa N fc) N f) (hf : ∀ i, 0 ≤ f i ∧ f i ≤ 255) (hb : M.at w vb) :
    Calls Tryz.prog 15 #[.slice fa N fc, sp n g a, mv M vb, .int .i64 q] w fun e w' => ∃ v, e = .returned (.tuple #[v, .int .i64 (smE M n g a N q)]) ∧ (smE M n g a N q = 0 → Six w.heap.size w' v (smp M n g a (aF N f) q)) ∧ (smE M n g a N q ≠ 0 → v = .slice none 0 0) ∧ Below w.heap.size w w' := by
  have out : ∀ x, smE M n g a N q = x → x ≠ 0 → ∀ (e : Ending) (w' : World), e = .returned (.tuple #[.slice none 0 0, .int .i64 x]) ∧ Below w.heap.size w w' → ∃ v, e = .returned (.tuple #[v, .int .i64 (smE M n g a N q)]) ∧ (smE M n g a N q = 0 → Six w.heap.size w' v (smp M n g a (aF N f) q)) ∧ (smE M n g a N q ≠ 0 → v = .slice none 0 0) ∧ Below w.heap.size w w' := fun x hx h0 e w' h =>
    ⟨_, by rw [hx]; exact h.1, fun h1 => absurd (hx.symm.trans h1) h0, fun _ => rfl, h.2⟩
  by_cases hc : cE n g a = 0
  · by_cases h2 : 0 < N ∧ (N : Int) ≠ zV n
    · exact (smp_no2 M vb fa N fc n g a q w hc h2.1 h2.2).mono (out 2 (by unfold smE; rw [if_neg (by omega), if_pos (.inl h2)]) (by decide))
    · by_cases h3 : M.e = 0
      · by_cases h4 : M.ad = a
        · by_cases h5 : q < 1 ∨ 31 < q
          · have e0 : smE M n g a N q = 3 := by unfold smE; rw [if_neg (by omega), if_neg (by rintro (h | h | h); exact h2 h; exact h h3; exact h h4), if_pos h5]
            by_cases hN : N = 0
            · exact (smp_no5_0 M vb fa N fc n g a q w hc hN hb h3 h4 h5).mono (out 3 e0 (by decide))
            · exact (smp_no5_1 M vb fa N fc n g a q w hc (by omega) (by omega) hb h3 h4 h5).mono (out 3 e0 (by decide))
          · by_cases h6 : pV M.kd = true ∧ Mo.vE n g a M.x M.y ≠ 0
            · have e0 : smE M n g a N q = Mo.vE n g a M.x M.y := by unfold smE; rw [if_neg (by omega), if_neg (by rintro (h | h | h); exact h2 h; exact h h3; exact h h4), if_neg h5, if_pos h6]
              by_cases hN : N = 0
              · exact (smp_no6_0 M vb fa N fc n g a q w hc hN hb h3 h4 h5 h6.1 h6.2).mono (out _ e0 h6.2)
              · exact (smp_no6_1 M vb fa N fc n g a q w hc (by omega) (by omega) hb h3 h4 h5 h6.1 h6.2).mono (out _ e0 h6.2)
            · have e0 : smE M n g a N q = 0 := by unfold smE; rw [if_neg (by omega), if_neg (by rintro (h | h | h); exact h2 h; exact h h3; exact h h4), if_neg h5, if_neg h6]
              refine (Samples_ok M vb fa N fc f n g a q w hs hf hc (by omega) hb h3 h4 h5 (fun hv => by by_cases hx : Mo.vE n g a M.x M.y = 0; exact hx; exact absurd ⟨hv, hx⟩ h6)).mono ?_
              rintro e w' ⟨v, rfl, h7, h8⟩
              exact ⟨v, by rw [e0], fun _ => h7, fun h => absurd e0 h, h8⟩
        · have e0 : smE M n g a N q = 2 := by unfold smE; rw [if_neg (by omega), if_pos (.inr (.inr h4))]
          by_cases hN : N = 0
          · exact (smp_no4_0 M vb fa N fc n g a q w hc hN hb h3 h4).mono (out 2 e0 (by decide))
          · exact (smp_no4_1 M vb fa N fc n g a q w hc (by omega) (by omega) hb h3 h4).mono (out 2 e0 (by decide))
      · have e0 : smE M n g a N q = 2 := by unfold smE; rw [if_neg (by omega), if_pos (.inr (.inl h3))]
        by_cases hN : N = 0
        · exact (smp_no3_0 M vb fa N fc n g a q w hc hN hb h3).mono (out 2 e0 (by decide))
        · exact (smp_no3_1 M vb fa N fc n g a q w hc (by omega) (by omega) hb h3).mono (out 2 e0 (by decide))
  · exact (smp_no1 M vb fa N fc n g a q w hc).mono (out _ (by unfold smE; rw [if_pos hc]) hc)
def macE (M : MB) (n g a : Int) (N NF : Nat) (q : Int) : Int := if cE n g a ≠ 0 then cE n g a else if (N : Int) ≠ zV n then 2 else smE M n g a NF q
def layS (n g a : Int) (S : Nat → Nat → Int) (f : Nat → Int) : Nat → Nat → Int
  | 0 => f
  | k + 1 => Pa.layN (pA n g a ((k : Int) + 1)).toNat (pS n g a ((k : Int) + 1)).toNat (S k) (layS n g a S f k) 64
def macF (M : MB) (n g a : Int) (N NF : Nat) (q : Int) (F f : Nat → Int) : Nat → Int := if macE M n g a N NF q = 0 then layS n g a (smp M n g a (aF NF F) q) f 6 else f
theorem Six.kept {B : Nat} {w w' : World} {v : Value} {S : Nat → Nat → Int} {b : Nat} (h : Six B w v S) (hg : w.grownBy w' (some b)) (hb : b < B) : Six B w' v S := by
  obtain ⟨g, c, V, rfl, h1, h2, h3, h4, h5⟩ := h
  refine ⟨g, c, V, rfl, h1, Nat.lt_of_lt_of_le h2 hg.size, h3, h4, fun i hi => ?_⟩
  obtain ⟨h6, h7, h8⟩ := h5 i hi
  refine ⟨grown_cell hg (fun e => by have := Option.some.inj e; omega) h6, h7.grown hg (fun x e e2 => ?_), h8⟩
  have := (h7.own x e2).1
  have := Option.some.inj e
  omega
section
set_option maxRecDepth 100000
set_option maxHeartbeats 4000000
set_option linter.unusedVariables false
variable (M : MB) (vb : Value) (b N R c : Nat) (fa : Option Addr) (NF fc : Nat) (f F : Nat → Int) (n g a q : Int) (w : World)
theorem mac_no1 (hc : cE n g a ≠ 0) (ta : Option Addr) :
    Calls Tryz.prog 16 #[.slice ta N c, .slice fa NF fc, sp n g a, mv M vb, .int .i64 q] w fun e w' => e = .returned (.int .i64 (cE n g a)) ∧ Below w.heap.size w w' := by
  have HS := Lib.hid (fun V => size_any n g a V)
  obtain ⟨E, hE⟩ : ∃ E, cE n g a = E := ⟨_, rfl⟩
  obtain ⟨Z, hZ⟩ : ∃ Z, zS n g a = Z := ⟨_, rfl⟩
  rw [hE, hZ] at HS
  rw [hE] at hc ⊢
  have t1 : (E != 0) = true := by simpa using hc
  clear hc hE hZ
  have HB := Lib.hid (((Below.refl w.heap.size w).alloc (Nat.le_refl _) (.cells #[.int .i64 n, .int .i64 g, .int .i64 a] 28)).alloc (by simp) (.cells #[.int .i64 M.ad, .int .i64 M.kd, .int .i64 M.qt, .int .i64 M.x, .int .i64 M.y, .int .i64 M.pt, vb] 24))
  have H5 : Hid (At _ _ _ _) := Lib.hid ((At.new w #[.int .i64 n, .int .i64 g, .int .i64 a] 28).below ((Below.refl _ _).alloc (Nat.le_refl _) (.cells #[.int .i64 M.ad, .int .i64 M.kd, .int .i64 M.qt, .int .i64 M.x, .int .i64 M.y, .int .i64 M.pt, vb] 24)))
  have k0 := H5.out.cell 0 _ rfl
  have k1 := H5.out.cell 1 _ rfl
  have k2 := H5.out.cell 2 _ rfl
  go_enter Tryz.func16, Tryz.ntmps16
  go_wp2_with (go_at_call 44; refine (HS.out _).mono ?_; rintro e w1 ⟨rfl, b1⟩; have HB := Lib.hid (chain HB.out b1); clear b1 H5 k0 k1 k2)
  go_ret
  exact ⟨rfl, HB.out⟩
theorem mac_no2 (hc : cE n g a = 0) (hN : (N : Int) ≠ zV n) (ta : Option Addr) :
    Calls Tryz.prog 16 #[.slice ta N c, .slice fa NF fc, sp n g a, mv M vb, .int .i64 q] w fun e w' => e = .returned (.int .i64 2) ∧ Below w.heap.size w w' := by
  have HS := Lib.hid (fun V => size_any n g a V)
  rw [hc, show zS n g a = zV n from if_pos hc] at HS
  obtain ⟨Z, hZ⟩ : ∃ Z, zV n = Z := ⟨_, rfl⟩
  rw [hZ] at HS hN
  have t1 : ((N : Int) != Z) = true := by simpa using hN
  clear hc hZ hN
  have HB := Lib.hid (((Below.refl w.heap.size w).alloc (Nat.le_refl _) (.cells #[.int .i64 n, .int .i64 g, .int .i64 a] 28)).alloc (by simp) (.cells #[.int .i64 M.ad, .int .i64 M.kd, .int .i64 M.qt, .int .i64 M.x, .int .i64 M.y, .int .i64 M.pt, vb] 24))
  have H5 : Hid (At _ _ _ _) := Lib.hid ((At.new w #[.int .i64 n, .int .i64 g, .int .i64 a] 28).below ((Below.refl _ _).alloc (Nat.le_refl _) (.cells #[.int .i64 M.ad, .int .i64 M.kd, .int .i64 M.qt, .int .i64 M.x, .int .i64 M.y, .int .i64 M.pt, vb] 24)))
  have k0 := H5.out.cell 0 _ rfl
  have k1 := H5.out.cell 1 _ rfl
  have k2 := H5.out.cell 2 _ rfl
  go_enter Tryz.func16, Tryz.ntmps16
  go_wp2_with (go_at_call 44; refine (HS.out _).mono ?_; rintro e w1 ⟨rfl, b1⟩; have HB := Lib.hid (chain HB.out b1); clear b1 H5 k0 k1 k2)
  go_ret
  exact ⟨rfl, HB.out⟩
theorem mac_no3 (hc : cE n g a = 0) (hN : (N : Int) = zV n) (ta : Option Addr) (hs : Sl .u8 w (.slice fa NF fc) NF F) (hf : ∀ i, 0 ≤ F i ∧ F i ≤ 255) (hb : M.at w vb) (he : smE M n g a NF q ≠ 0) :
    Calls Tryz.prog 16 #[.slice ta N c, .slice fa NF fc, sp n g a, mv M vb, .int .i64 q] w fun e w' => e = .returned (.int .i64 (smE M n g a NF q)) ∧ Below w.heap.size w w' := by
  have HS := Lib.hid (fun V => size_any n g a V)
  have HM := Lib.hid (fun V h1 h2 => Samples_any M vb fa NF fc F n g a q V h1 hf h2)
  rw [hc, show zS n g a = zV n from if_pos hc] at HS
  obtain ⟨Z, hZ⟩ : ∃ Z, zV n = Z := ⟨_, rfl⟩
  rw [hZ] at HS hN
  obtain ⟨E, hE⟩ : ∃ E, smE M n g a NF q = E := ⟨_, rfl⟩
  rw [hE] at HM he ⊢
  have t1 : ((N : Int) != Z) = false := by simp [hN]
  have HE := Lib.hid he
  clear hc hZ hN hE he hf
  have HB := Lib.hid (((Below.refl w.heap.size w).alloc (Nat.le_refl _) (.cells #[.int .i64 n, .int .i64 g, .int .i64 a] 28)).alloc (by simp) (.cells #[.int .i64 M.ad, .int .i64 M.kd, .int .i64 M.qt, .int .i64 M.x, .int .i64 M.y, .int .i64 M.pt, vb] 24))
  have HS1 := Lib.hid (hs.below HB.out)
  have HA1 := Lib.hid (hb.below HB.out)
  have H5 : Hid (At _ _ _ _) := Lib.hid ((At.new w #[.int .i64 n, .int .i64 g, .int .i64 a] 28).below ((Below.refl _ _).alloc (Nat.le_refl _) (.cells #[.int .i64 M.ad, .int .i64 M.kd, .int .i64 M.qt, .int .i64 M.x, .int .i64 M.y, .int .i64 M.pt, vb] 24)))
  have H6 : Hid (At _ _ _ _) := Lib.hid (At.new (w.alloc (.cells #[.int .i64 n, .int .i64 g, .int .i64 a] 28)) #[.int .i64 M.ad, .int .i64 M.kd, .int .i64 M.qt, .int .i64 M.x, .int .i64 M.y, .int .i64 M.pt, vb] 24)
  simp only [World.size_alloc] at H6
  have k0 := H5.out.cell 0 _ rfl
  have k1 := H5.out.cell 1 _ rfl
  have k2 := H5.out.cell 2 _ rfl
  clear hs hb
  go_enter Tryz.func16, Tryz.ntmps16
  go_upto_region 6 with (go_at_call 44; refine (HS.out _).mono ?_; rintro e w1 ⟨rfl, b1⟩; have HB := Lib.hid (chain HB.out b1); have HS1 := Lib.hid (HS1.out.below b1); have HA1 := Lib.hid (HA1.out.below b1); have H5 := Lib.hid (H5.out.below b1); have H6 := Lib.hid (H6.out.below b1); clear b1 k0 k1 k2)
  have k0 := H5.out.cell 0 _ rfl
  have k1 := H5.out.cell 1 _ rfl
  have k2 := H5.out.cell 2 _ rfl
  have m0 := H6.out.cell 0 _ rfl
  have m1 := H6.out.cell 1 _ rfl
  have m2 := H6.out.cell 2 _ rfl
  have m3 := H6.out.cell 3 _ rfl
  have m4 := H6.out.cell 4 _ rfl
  have m5 := H6.out.cell 5 _ rfl
  have m6 := H6.out.cell 6 _ rfl
  go_wp2_with (go_at_call 15; refine (HM.out _ HS1.out HA1.out).mono ?_; rintro e w2 ⟨v, rfl, _, hv, b2⟩; obtain rfl := hv HE.out; have HB := Lib.hid (chain HB.out b2); clear b2 hv k0 k1 k2 m0 m1 m2 m3 m4 m5 m6)
  go_loopw [40] (fun x wr => x = .int .i64 0 ∧ Hid (Below w.heap.size w wr)) (fun _ _ => 0)
  case atStart => exact ⟨rfl, HB⟩
  case round =>
    obtain ⟨rfl, HB⟩ := hrel
    go_wp2_with fail
    go_ret
    exact ⟨rfl, HB.out⟩
end
end Bu
end Go.Proofs.YtbmglemjfodfhaaGreat
namespace Go.Proofs.YtbmglemjfodfhaaGreat
open Go.RowKit
namespace Bu
open Bk Fr Pt Kd
theorem Six.row {B : Nat} {w : World} {v : Value} {S : Nat → Nat → Int} (h : Six B w v S) : ∃ (g c : Nat) (V : Nat → Nat × Nat), v = .slice (some ⟨g, 0, none⟩) 6 c ∧ B ≤ g ∧ 6 ≤ c ∧ c ≤ maxLen ∧ ∀ i, i < 6 → w.cell? ⟨g, i, none⟩ = some (.slice (some ⟨(V i).1, 0, none⟩) 64 (V i).2) ∧ B ≤ (V i).1 ∧ Sl .u8 w (.slice (some ⟨(V i).1, 0, none⟩) 64 (V i).2) 64 (S i) := by
  obtain ⟨g, c, V, rfl, h1, h2, h3, h4, h5⟩ := h
  have : ∀ i, ∃ p : Nat × Nat, i < 6 → V i = .slice (some ⟨p.1, 0, none⟩) 64 p.2 ∧ B ≤ p.1 := fun i => by
    by_cases hi : i < 6
    · rcases (h5 i hi).2.1 with ⟨h0, _⟩ | ⟨gi, ci, e, h6, _⟩
      · omega
      · exact ⟨(gi, ci), fun _ => ⟨e, h6⟩⟩
    · exact ⟨(0, 0), fun h => absurd h hi⟩
  refine ⟨g, c, fun i => Classical.choose (this i), rfl, h1, h3, h4, fun i hi => ?_⟩
  have hp := Classical.choose_spec (this i) hi
  obtain ⟨h6, h7, _⟩ := h5 i hi
  have h8 := h7.sl
  rw [hp.1] at h6 h8
  exact ⟨h6, hp.2, h8⟩
section
set_option maxRecDepth 100000
set_option maxHeartbeats 4000000
set_option linter.unusedVariables false
variable (M : MB) (vb : Value) (b N R c : Nat) (fa : Option Addr) (NF fc : Nat) (f F : Nat → Int) (n g a q : Int) (w : World)
theorem mac_yes (hA : Arr w .u8 b R f) (hR : N ≤ R) (hNc : N ≤ c) (h0 : 0 < R) (hc : cE n g a = 0) (hN : (N : Int) = zV n) (hs : Sl .u8 w (.slice fa NF fc) NF F) (hf : ∀ i, 0 ≤ F i ∧ F i ≤ 255) (hb : M.at w vb) (he : smE M n g a NF q = 0) :
    Calls Tryz.prog 16 #[.slice (some ⟨b, 0, none⟩) N c, .slice fa NF fc, sp n g a, mv M vb, .int .i64 q] w fun e w' => e = .returned (.int .i64 0) ∧ Arr w' .u8 b R (layS n g a (smp M n g a (aF NF F) q) f 6) ∧ w.grownBy w' (some b) := by
  have HS := Lib.hid (fun V => size_any n g a V)
  have HM := Lib.hid (fun V h1 h2 => Samples_any M vb fa NF fc F n g a q V h1 hf h2)
  rw [hc, show zS n g a = zV n from if_pos hc] at HS
  have hblt := hA.lt h0
  have HL : Hid (∀ (k : Nat) (V : World) (G : Nat → Int) (rg rc : Nat) (s : Nat → Int), k < 6 → Arr V .u8 b R G → Sl .u8 V (.slice (some ⟨rg, 0, none⟩) 64 rc) 64 s → b < rg →
      Calls Tryz.prog 18 #[.slice (some ⟨b, 0, none⟩) N c, .agg #[.int .i64 n, .int .i64 g, .int .i64 a], .int .i64 ((k : Int) + 1), .slice (some ⟨rg, 0, none⟩) 64 rc] V fun e w' => e = .returned (.int .i64 0) ∧ Arr w' .u8 b R (Pa.layN (pA n g a ((k : Int) + 1)).toNat (pS n g a ((k : Int) + 1)).toNat s G 64) ∧ V.grownBy w' (some b)) := Lib.hid (fun k V G rg rc s hk h1 h2 h3 => by
    have e0 := Pa.layE_ok (k := (k : Int) + 1) hc hN (rfl : (64 : Nat) = 64) (by omega)
    have := Pa.Lay_any b N R c (some ⟨rg, 0, none⟩) 64 rc G s n g a ((k : Int) + 1) V h1 hR hNc h0 h2 (fun _ x e => by cases e; simp; omega)
    rw [e0] at this
    refine this.mono ?_
    rintro e w' ⟨h4, h5, h6⟩
    unfold Pa.layG at h5
    rw [if_pos e0] at h5
    exact ⟨h4, h5, h6⟩)
  obtain ⟨S, hS⟩ : ∃ S, smp M n g a (aF NF F) q = S := ⟨_, rfl⟩
  obtain ⟨Z, hZ⟩ : ∃ Z, zV n = Z := ⟨_, rfl⟩
  rw [hZ] at HS hN
  rw [he, hS] at HM
  rw [hS]
  have t1 : ((N : Int) != Z) = false := by simp [hN]
  clear hc hZ hN he hf hS
  have HB := Lib.hid (((Below.refl w.heap.size w).alloc (Nat.le_refl _) (.cells #[.int .i64 n, .int .i64 g, .int .i64 a] 28)).alloc (by simp) (.cells #[.int .i64 M.ad, .int .i64 M.kd, .int .i64 M.qt, .int .i64 M.x, .int .i64 M.y, .int .i64 M.pt, vb] 24))
  have HS1 := Lib.hid (hs.below HB.out)
  have HA1 := Lib.hid (hb.below HB.out)
  have H5 : Hid (At _ _ _ _) := Lib.hid ((At.new w #[.int .i64 n, .int .i64 g, .int .i64 a] 28).below ((Below.refl _ _).alloc (Nat.le_refl _) (.cells #[.int .i64 M.ad, .int .i64 M.kd, .int .i64 M.qt, .int .i64 M.x, .int .i64 M.y, .int .i64 M.pt, vb] 24)))
  have H6 : Hid (At _ _ _ _) := Lib.hid (At.new (w.alloc (.cells #[.int .i64 n, .int .i64 g, .int .i64 a] 28)) #[.int .i64 M.ad, .int .i64 M.kd, .int .i64 M.qt, .int .i64 M.x, .int .i64 M.y, .int .i64 M.pt, vb] 24)
  simp only [World.size_alloc] at H6
  have HP := Lib.hid hA
  have k0 := H5.out.cell 0 _ rfl
  have k1 := H5.out.cell 1 _ rfl
  have k2 := H5.out.cell 2 _ rfl
  clear hs hb hA
  go_enter Tryz.func16, Tryz.ntmps16
  go_upto_region 6 with (go_at_call 44; refine (HS.out _).mono ?_; rintro e w1 ⟨rfl, b1⟩; have HB := Lib.hid (chain HB.out b1); have HS1 := Lib.hid (HS1.out.below b1); have HA1 := Lib.hid (HA1.out.below b1); have H5 := Lib.hid (H5.out.below b1); have H6 := Lib.hid (H6.out.below b1); clear b1 k0 k1 k2)
  have k0 := H5.out.cell 0 _ rfl
  have k1 := H5.out.cell 1 _ rfl
  have k2 := H5.out.cell 2 _ rfl
  have m0 := H6.out.cell 0 _ rfl
  have m1 := H6.out.cell 1 _ rfl
  have m2 := H6.out.cell 2 _ rfl
  have m3 := H6.out.cell 3 _ rfl
  have m4 := H6.out.cell 4 _ rfl
  have m5 := H6.out.cell 5 _ rfl
  have m6 := H6.out.cell 6 _ rfl
  have hz1 := HB.out.size
  go_wp2_with (go_at_call 15; refine (HM.out _ HS1.out HA1.out).mono ?_; rintro e w2 ⟨v, rfl, hv, _, b2⟩; obtain ⟨sg, sc, V, rfl, v1, v2, v3, v4⟩ := (hv trivial).row; have HV := Lib.hid v4; have H5 := Lib.hid (H5.out.below b2); have HB := Lib.hid (chain HB.out b2); clear b2 hv v4 k0 k1 k2 m0 m1 m2 m3 m4 m5 m6)
  have HP2 := Lib.hid (HP.out.below HB.out hblt)
  have hne : w.heap.size ≠ b := by omega
  have hne2 : sg ≠ b := by omega
  have HV2 : Hid (∀ i, i < 6 → w2.cell? ⟨sg, i, none⟩ = some (.slice (some ⟨(V i).1, 0, none⟩) 64 (V i).2) ∧ b < (V i).1 ∧ Sl .u8 w2 (.slice (some ⟨(V i).1, 0, none⟩) 64 (V i).2) 64 (S i)) := Lib.hid (fun i hi => by
    obtain ⟨h1, h2, h3⟩ := HV.out i hi
    exact ⟨h1, by omega, h3⟩)
  clear HV HP HM HS HS1 HA1 H6 v1
  go_loopw [40] (fun x wr => ∃ k : Nat, k ≤ 6 ∧ x = .int .i64 k ∧ Hid (Arr wr .u8 b R (layS n g a S f k)) ∧ Hid (w2.grownBy wr (some b))) (fun x _ => 6 - (intOf x).toNat)
  case atStart => exact ⟨0, by omega, rfl, HP2, Lib.hid (grown_of_below (Below.refl _ _) _)⟩
  case round =>
    obtain ⟨k, hk, rfl, HP, HG⟩ := hrel
    by_cases hk6 : k < 6
    · have kb : (0 : Int) ≤ (k : Int) ∧ (k : Int) < 6 := by omega
      obtain ⟨c1, c2, c3⟩ := HV2.out k hk6
      have e1 := grown_cell HG.out (show some sg ≠ some b from fun e => hne2 (Option.some.inj e)) c1
      have H5 := Lib.hid (H5.out.kept HG.out (fun e => hne (Option.some.inj e)))
      have k0 := H5.out.cell 0 _ rfl
      have k1 := H5.out.cell 1 _ rfl
      have k2 := H5.out.cell 2 _ rfl
      have c3' := Sl.grown' c3 HG.out (fun _ x e e2 => by cases e; have := Option.some.inj e2; simp at this; omega)
      have CALL := Lib.hid (HL.out k wr _ _ _ _ hk6 HP.out c3' c2)
      have ek : IntKind.i64.wrap ((k : Int) + 1) = (k : Int) + 1 := IntWalk.i64_in _ (by omega)
      clear c1 c2 c3 c3'
      go_wp2_with (go_at_call 18; refine CALL.out.mono ?_; rintro e w3 ⟨rfl, a3, g3⟩; have HP := Lib.hid a3; have HG := Lib.hid (grown_trans HG.out g3); clear a3 g3 k0 k1 k2)
      go_roundw
      case rel => exact ⟨k + 1, by omega, by go_num, HP, HG⟩
      case measure => simp [intOf]; omega
    · have kb : ¬ (k : Int) < 6 := by omega
      have hk7 : k = 6 := by omega
      clear hk hk6
      go_wp2_with fail
      go_ret
      subst hk7
      exact ⟨rfl, HP.out, grown_trans (grown_of_below HB.out _) HG.out⟩
theorem Macro_any (hA : Arr w .u8 b R f) (hR : N ≤ R) (hNc : N ≤ c) (h0 : 0 < R) (hs : Sl .u8 w (.slice fa NF fc) NF F) (hf : ∀ i, 0 ≤ F i ∧ F i ≤ 255) (hb : M.at w vb) :
    Calls Tryz.prog 16 #[.slice (some ⟨b, 0, none⟩) N c, .slice fa NF fc, sp n g a, mv M vb, .int .i64 q] w fun e w' => e = .returned (.int .i64 (macE M n g a N NF q)) ∧ Arr w' .u8 b R (macF M n g a N NF q F f) ∧ w.grownBy w' (some b) := by
  have hblt := hA.lt h0
  have out : ∀ x, macE M n g a N NF q = x → x ≠ 0 → ∀ (e : Ending) (w' : World), e = .returned (.int .i64 x) ∧ Below w.heap.size w w' → e = .returned (.int .i64 (macE M n g a N NF q)) ∧ Arr w' .u8 b R (macF M n g a N NF q F f) ∧ w.grownBy w' (some b) := fun x hx hE e w' h => ⟨by rw [hx]; exact h.1, by unfold macF; rw [hx, if_neg hE]; exact hA.below h.2 hblt, grown_of_below h.2 _⟩
  by_cases hc : cE n g a = 0
  · by_cases hN : (N : Int) = zV n
    · have e0 : macE M n g a N NF q = smE M n g a NF q := by unfold macE; rw [if_neg (by omega), if_neg (by omega)]
      by_cases he : smE M n g a NF q = 0
      · refine (mac_yes M vb b N R c fa NF fc f F n g a q w hA hR hNc h0 hc hN hs hf hb he).mono ?_
        rintro e w' ⟨h1, h2, h3⟩
        exact ⟨by rw [e0, he]; exact h1, by unfold macF; rw [e0, if_pos he]; exact h2, h3⟩
      · exact (mac_no3 M vb N c fa NF fc F n g a q w hc hN _ hs hf hb he).mono (out _ e0 he)
    · exact (mac_no2 M vb N c fa NF fc n g a q w hc hN _).mono (out 2 (by unfold macE; rw [if_neg (by omega), if_pos hN]) (by decide))
  · exact (mac_no1 M vb N c fa NF fc n g a q w hc _).mono (out _ (by unfold macE; rw [if_pos hc]) hc)
end
end Bu
end Go.Proofs.YtbmglemjfodfhaaGreat
namespace Go.Proofs.YtbmglemjfodfhaaGreat
open Go.RowKit
namespace Bl
open Bk Fr Pt Kd Bu
def bcs (dc : Nat → Int) (q : Nat → Option Addr) (nn cc : Nat → Nat) : Nat → List Value
  | 0 => []
  | n + 1 => bcs dc q nn cc n ++ [.int .i64 (dc n), .slice (q n) (nn n) (cc n)]
theorem bcs_len (dc : Nat → Int) (q : Nat → Option Addr) (nn cc : Nat → Nat) : ∀ n, (bcs dc q nn cc n).length = n * 2
  | 0 => rfl
  | n + 1 => by rw [bcs, List.length_append, bcs_len dc q nn cc n]; simp; omega
theorem bcs_get (dc : Nat → Int) (q : Nat → Option Addr) (nn cc : Nat → Nat) : ∀ n i, i < n → (bcs dc q nn cc n)[i * 2]? = some (.int .i64 (dc i)) ∧ (bcs dc q nn cc n)[i * 2 + 1]? = some (.slice (q i) (nn i) (cc i))
  | n + 1, i, h => by
    have hl := bcs_len dc q nn cc n
    by_cases hi : i < n
    · have ih := bcs_get dc q nn cc n i hi
      rw [bcs, List.getElem?_append_left (by omega), List.getElem?_append_left (by omega)]
      exact ih
    · obtain rfl : i = n := by omega
      rw [bcs, List.getElem?_append_right (by omega), List.getElem?_append_right (by omega), hl, Nat.sub_self, show i * 2 + 1 - i * 2 = 1 by omega]
      exact ⟨rfl, rfl⟩
theorem bsl_of_own {w : World} {B : Nat} {e : TypeId} {v : Value} {m : Nat} {dc : Nat → Int} {q : Nat → Option Addr} {nn cc : Nat → Nat} {r l : Nat → Nat → Int} (h : w.ownsRow B e 2 v m (bcs dc q nn cc m))
    (hp : ∀ j, j < m → Pl w (.slice (q j) (nn j) (cc j)) (nn j) (r j) (l j) ∧ nn j ≤ 1000) : Bsl w v m dc q nn cc r l := by
  have hc := fun g => World.ownsRow.cells h (g := g)
  rcases h.2 with ⟨rfl, h0⟩ | ⟨g, cap, cur, rfl, hb, hg, h1, h2, h3, h4⟩
  · have : m = 0 := by simpa [bcs_len] using h0
    subst this
    exact ⟨none, 0, rfl, Nat.le_refl _, Nat.zero_le _, .inl rfl⟩
  · refine ⟨some ⟨g, 0, none⟩, cap, rfl, h1, h2, .inr ⟨g, 0, rfl, fun i hi => ?_⟩⟩
    obtain ⟨p1, p2⟩ := bcs_get dc q nn cc m i hi
    have a1 := hc g rfl _ _ p1
    have a2 := hc g rfl _ _ p2
    have ad : ∀ j, (⟨g, 0, none⟩ : Addr).add j = ⟨g, j, none⟩ := fun j => by unfold Addr.add; split <;> simp_all
    rw [ad] at a1 a2
    rw [show 0 + i * 2 = i * 2 by omega]
    exact ⟨a1, a2, (hp i hi).1, (hp i hi).2⟩
theorem own_slice {w : World} {B : Nat} {e : TypeId} {q : Nat} {v : Value} {n : Nat} {l : List Value} (h : w.ownsRow B e q v n l) : ∃ a m c, v = .slice a m c := by
  rcases h.2 with ⟨rfl, _⟩ | ⟨g, cap, cur, rfl, _⟩
  · exact ⟨_, _, _, rfl⟩
  · exact ⟨_, _, _, rfl⟩
theorem info_blk : (Tryz.prog.info? 74).map (fun i => (i.zero, i.size, i.bytes)) = some (some (.agg #[.int .i64 0, .slice none 0 0]), 2, 32) := by kernel_rfl
theorem at_seven {V : World} {B : Nat} {y0 y1 y2 y3 y4 y5 y6 : Value} {t : TypeId} (h : At V B #[y0, y1, y2, y3, y4, y5, y6] t) (x0 x1 x2 x3 x4 x5 x6 : Value) :
    At (((((((V.setCell ⟨B, 0, none⟩ x0).setCell ⟨B, 1, none⟩ x1).setCell ⟨B, 2, none⟩ x2).setCell ⟨B, 3, none⟩ x3).setCell ⟨B, 4, none⟩ x4).setCell ⟨B, 5, none⟩ x5).setCell ⟨B, 6, none⟩ x6) B #[x0, x1, x2, x3, x4, x5, x6] t
    ∧ V.grownBy (((((((V.setCell ⟨B, 0, none⟩ x0).setCell ⟨B, 1, none⟩ x1).setCell ⟨B, 2, none⟩ x2).setCell ⟨B, 3, none⟩ x3).setCell ⟨B, 4, none⟩ x4).setCell ⟨B, 5, none⟩ x5).setCell ⟨B, 6, none⟩ x6) (some B) :=
  by
  obtain ⟨V1, e1⟩ : ∃ X, X = V.setCell ⟨B, 0, none⟩ x0 := ⟨_, rfl⟩
  have h1 : V1.heap[B]? = some (.cells #[x0, y1, y2, y3, y4, y5, y6] t (0, 0)) := by rw [e1]; exact ob_set h 0 x0
  have g1 : V.grownBy V1 (some B) := by rw [e1]; exact Kd.grown_cell V _ _ _
  rw [← e1]
  obtain ⟨V2, e2⟩ : ∃ X, X = V1.setCell ⟨B, 1, none⟩ x1 := ⟨_, rfl⟩
  have h2 : V2.heap[B]? = some (.cells #[x0, x1, y2, y3, y4, y5, y6] t (0, 0)) := by rw [e2]; exact ob_set h1 1 x1
  have g2 : V.grownBy V2 (some B) := by rw [e2]; exact grown_set g1 _ _
  rw [← e2]
  obtain ⟨V3, e3⟩ : ∃ X, X = V2.setCell ⟨B, 2, none⟩ x2 := ⟨_, rfl⟩
  have h3 : V3.heap[B]? = some (.cells #[x0, x1, x2, y3, y4, y5, y6] t (0, 0)) := by rw [e3]; exact ob_set h2 2 x2
  have g3 : V.grownBy V3 (some B) := by rw [e3]; exact grown_set g2 _ _
  rw [← e3]
  obtain ⟨V4, e4⟩ : ∃ X, X = V3.setCell ⟨B, 3, none⟩ x3 := ⟨_, rfl⟩
  have h4 : V4.heap[B]? = some (.cells #[x0, x1, x2, x3, y4, y5, y6] t (0, 0)) := by rw [e4]; exact ob_set h3 3 x3
  have g4 : V.grownBy V4 (some B) := by rw [e4]; exact grown_set g3 _ _
  rw [← e4]
  obtain ⟨V5, e5⟩ : ∃ X, X = V4.setCell ⟨B, 4, none⟩ x4 := ⟨_, rfl⟩
  have h5 : V5.heap[B]? = some (.cells #[x0, x1, x2, x3, x4, y5, y6] t (0, 0)) := by rw [e5]; exact ob_set h4 4 x4
  have g5 : V.grownBy V5 (some B) := by rw [e5]; exact grown_set g4 _ _
  rw [← e5]
  obtain ⟨V6, e6⟩ : ∃ X, X = V5.setCell ⟨B, 5, none⟩ x5 := ⟨_, rfl⟩
  have h6 : V6.heap[B]? = some (.cells #[x0, x1, x2, x3, x4, x5, y6] t (0, 0)) := by rw [e6]; exact ob_set h5 5 x5
  have g6 : V.grownBy V6 (some B) := by rw [e6]; exact grown_set g5 _ _
  rw [← e6]
  exact ⟨ob_set h6 6 x6, grown_set g6 _ _⟩
def M5 : MB := ⟨1, 1, 0, 0, 0, 63, 6, fun _ => 5, fun _ => none, fun _ => 0, fun _ => 0, fun _ _ => 0, fun _ _ => 0⟩
theorem qcif_any (a : Int) (w : World) : Calls Tryz.prog 38 #[.int .i64 a] w fun e w' => e = .returned (sp 0 1 a) ∧ Below w.heap.size w w' := by
  go_enter Tryz.func38, Tryz.ntmps38
  go_wp2_with fail
  refine bodyPost_ret (results_cell_row rfl _ _ w.heap.size _ _ _ _ rfl (heap_alloc_new w _) Tryz.underlying28 rfl (by kernel_rfl)) rfl ?_
  exact ⟨rfl, (Below.refl _ _).alloc (Nat.le_refl _) _⟩
set_option maxRecDepth 100000 in
set_option maxHeartbeats 2000000 in
theorem five_any (w : World) : Calls Tryz.prog 39 #[] w fun e w' => ∃ vb, e = .returned (mv M5 vb) ∧ M5.at w' vb ∧ Below w.heap.size w w' := by
  obtain ⟨i0, hi, hz0, hz1, hz2⟩ := info_parts info_blk
  go_enter Tryz.func39, Tryz.ntmps39
  go_wp2_with fail
  have HB := Lib.hid (((Below.refl w.heap.size w).alloc (Nat.le_refl _) (.cells #[.int .i64 0, .int .i64 0, .int .i64 0, .int .i64 0, .int .i64 0, .int .i64 0, .slice none 0 0] 24)).alloc (by simp) (.cells #[.int .i64 1, .int .i64 1, .int .i64 0, .int .i64 0, .int .i64 0, .int .i64 63, .slice none 0 0] 24))
  have H0 : Hid (At _ _ _ _) := Lib.hid ((At.new w #[.int .i64 0, .int .i64 0, .int .i64 0, .int .i64 0, .int .i64 0, .int .i64 0, .slice none 0 0] 24).below ((Below.refl _ _).alloc (Nat.le_refl _) (.cells #[.int .i64 1, .int .i64 1, .int .i64 0, .int .i64 0, .int .i64 0, .int .i64 63, .slice none 0 0] 24)))
  have H1 : Hid (At _ _ _ _) := Lib.hid (At.new (w.alloc (.cells #[.int .i64 0, .int .i64 0, .int .i64 0, .int .i64 0, .int .i64 0, .int .i64 0, .slice none 0 0] 24)) #[.int .i64 1, .int .i64 1, .int .i64 0, .int .i64 0, .int .i64 0, .int .i64 63, .slice none 0 0] 24)
  simp only [World.size_alloc] at H1
  have hs0 : w.heap.size + 2 = ((w.alloc (.cells #[.int .i64 0, .int .i64 0, .int .i64 0, .int .i64 0, .int .i64 0, .int .i64 0, .slice none 0 0] 24)).alloc (.cells #[.int .i64 1, .int .i64 1, .int .i64 0, .int .i64 0, .int .i64 0, .int .i64 63, .slice none 0 0] 24)).heap.size := by simp
  generalize ((w.alloc (.cells #[.int .i64 0, .int .i64 0, .int .i64 0, .int .i64 0, .int .i64 0, .int .i64 0, .slice none 0 0] 24)).alloc (.cells #[.int .i64 1, .int .i64 1, .int .i64 0, .int .i64 0, .int .i64 0, .int .i64 63, .slice none 0 0] 24)) = W2 at *
  go_loopw [2] (fun x wr => ∃ (k : Nat) (v : Value), k ≤ 6 ∧ x = .int .i64 k ∧ Hid (At wr w.heap.size #[.int .i64 0, .int .i64 0, .int .i64 0, .int .i64 0, .int .i64 0, .int .i64 0, .slice none 0 0] 24) ∧ Hid (At wr (w.heap.size + 1) #[.int .i64 1, .int .i64 1, .int .i64 0, .int .i64 0, .int .i64 0, .int .i64 63, v] 24) ∧ Hid (wr.ownsRow (w.heap.size + 2) 74 2 v k (bcs (fun _ => 5) (fun _ => none) (fun _ => 0) (fun _ => 0) k)) ∧ Hid (Below w.heap.size w wr) ∧ w.heap.size + 2 ≤ wr.heap.size) (fun x _ => 6 - (intOf x).toNat)
  case atStart => exact ⟨0, _, by omega, rfl, H0, H1, Lib.hid (World.ownsRow_nil _ _ _ _), HB, by omega⟩
  case round =>
    clear H0 H1 HB hs0
    obtain ⟨k, v, hk, rfl, H0, H1, HO, HB, hz⟩ := hrel
    have c6 := H1.out.cell 6 _ rfl
    have f6 : wr.frozen? ⟨w.heap.size + 1, 6, none⟩ = false := frozen_of_row H1.out 6
    by_cases hk6 : k < 6
    · have kb : (0 : Int) ≤ (k : Int) ∧ (k : Int) < 6 := by omega
      go_wp2_with (at_builtin; refine wpList_append_own _ rfl _ _ 22 rfl (w.heap.size + 2) 74 i0 (.agg #[.int .i64 0, .slice none 0 0]) 2 32 Tryz.underlying22 hi hz0 hz1 hz2 rfl (by decide) _ _ _ rfl (HO.out.alloc _) ⟨wr.heap.size, 0, none⟩ 1 1 [.int .i64 5, .slice none 0 0] rfl rfl (World.news_of_block (cs := #[.int .i64 5, .slice none 0 0]) (t := 74) (fr := (0, 0)) (heap_alloc_new wr _)) (by simp [Value.oneCell']) (by unfold maxLen; omega) (by omega) (by simp; omega) ?_; intro v' w5 hown2 hgr hnil; obtain ⟨va, vm, vc, rfl⟩ := own_slice hown2; have H0 := Lib.hid ((H0.out.below ((Below.refl _ _).alloc (Nat.le_refl _) _)).kept hgr (fun e => by have := (HO.out.lt _ e.symm).1; omega)); have H1 := Lib.hid ((H1.out.below ((Below.refl _ _).alloc (Nat.le_refl _) _)).kept hgr (fun e => by have := (HO.out.lt _ e.symm).1; omega)); have HB := Lib.hid ((HB.out.alloc HB.out.size _).grown hgr (by simp; omega) (fun q hq => by have := (HO.out.lt q hq).1; omega)); have hz5 : w.heap.size + 2 ≤ w5.heap.size := Nat.le_trans (by simp; omega) hgr.size; clear c6 f6; have c6 := H1.out.cell 6 _ rfl; have f6 : w5.frozen? ⟨w.heap.size + 1, 6, none⟩ = false := frozen_of_row H1.out 6)
      have g6 := Kd.grown_cell w5 (w.heap.size + 1) 6 (.slice va vm vc)
      go_roundw
      case rel =>
        refine ⟨k + 1, .slice va vm vc, by omega, by go_num, Lib.hid (H0.out.kept g6 (fun e => by have := Option.some.inj e; omega)), Lib.hid (ob_set H1.out 6 _), Lib.hid ?_, Lib.hid (HB.out.grown g6 HB.out.size (fun q e => by have := Option.some.inj e; omega)), by rw [show (w5.setCell ⟨w.heap.size + 1, 6, none⟩ (.slice va vm vc)).heap.size = w5.heap.size from World.size_setCell _ _ _]; exact hz5⟩
        exact ownsRow_setCell_below hown2 (by simp) _
      case measure => simp [intOf]; omega
    · have hk7 : k = 6 := by omega
      have kb : ¬ (k : Int) < 6 := by omega
      clear hk hk6
      subst hk7
      obtain ⟨va, vm, vc, rfl⟩ := own_slice HO.out
      have c0 := H1.out.cell 0 _ rfl
      have c1 := H1.out.cell 1 _ rfl
      have c2 := H1.out.cell 2 _ rfl
      have c3 := H1.out.cell 3 _ rfl
      have c4 := H1.out.cell 4 _ rfl
      have c5 := H1.out.cell 5 _ rfl
      have d0 := H0.out.cell 0 _ rfl
      have d1 := H0.out.cell 1 _ rfl
      have d2 := H0.out.cell 2 _ rfl
      have d3 := H0.out.cell 3 _ rfl
      have d4 := H0.out.cell 4 _ rfl
      have d5 := H0.out.cell 5 _ rfl
      have d6 := H0.out.cell 6 _ rfl
      have g0 : wr.frozen? ⟨w.heap.size, 0, none⟩ = false := frozen_of_row H0.out 0
      have g1 : wr.frozen? ⟨w.heap.size, 1, none⟩ = false := frozen_of_row H0.out 1
      have g2 : wr.frozen? ⟨w.heap.size, 2, none⟩ = false := frozen_of_row H0.out 2
      have g3 : wr.frozen? ⟨w.heap.size, 3, none⟩ = false := frozen_of_row H0.out 3
      have g4 : wr.frozen? ⟨w.heap.size, 4, none⟩ = false := frozen_of_row H0.out 4
      have g5 : wr.frozen? ⟨w.heap.size, 5, none⟩ = false := frozen_of_row H0.out 5
      have g6 : wr.frozen? ⟨w.heap.size, 6, none⟩ = false := frozen_of_row H0.out 6
      go_wp2_with fail
      obtain ⟨hA7, hg7⟩ := at_seven H0.out (.int .i64 1) (.int .i64 1) (.int .i64 0) (.int .i64 0) (.int .i64 0) (.int .i64 63) (.slice va vm vc)
      have hb7 := HB.out.grown hg7 HB.out.size (fun q e => by have := Option.some.inj e; omega)
      have ho7 := HO.out.kept hg7 (by
        by_cases h : (Value.slice va vm vc).ownBlock = none
        · exact .inl h
        · exact .inr (fun e => by have := (HO.out.lt _ e).1; omega))
      refine bodyPost_ret (results_cell_row rfl _ _ w.heap.size _ _ _ _ rfl hA7 Tryz.underlying24 rfl (by kernel_rfl)) rfl ?_
      exact ⟨_, rfl, bsl_of_own ho7 (fun j _ => ⟨⟨none, 0, rfl, Nat.le_refl _, Nat.zero_le _, .inl ⟨rfl, fun _ => rfl⟩⟩, Nat.zero_le _⟩), hb7⟩
end Bl
end Go.Proofs.YtbmglemjfodfhaaGreat
namespace Go.Proofs.YtbmglemjfodfhaaGreat
open Go.RowKit
namespace Bl
open Bk Fr Pt Kd Bu
theorem layN_congr (A S : Nat) (s s' f : Nat → Int) : ∀ k, (∀ j, j < k → s j = s' j) → Pa.layN A S s f k = Pa.layN A S s' f k
  | 0, _ => rfl
  | k + 1, h => by
    show Pa.putOne A S s (Pa.layN A S s f k) k = Pa.putOne A S s' (Pa.layN A S s' f k) k
    rw [layN_congr A S s s' f k (fun j hj => h j (by omega))]
    funext i
    unfold Pa.putOne
    rw [h k (by omega)]
theorem layS_congr (n g a : Int) (S S' : Nat → Nat → Int) (f : Nat → Int) : ∀ k, (∀ i, i < k → ∀ j, j < 64 → S i j = S' i j) → layS n g a S f k = layS n g a S' f k
  | 0, _ => rfl
  | k + 1, h => by
    show Pa.layN _ _ (S k) (layS n g a S f k) 64 = Pa.layN _ _ (S' k) (layS n g a S' f k) 64
    rw [layS_congr n g a S S' f k (fun i hi => h i (by omega)), layN_congr _ _ (S k) (S' k) _ 64 (h k (by omega))]
set_option maxRecDepth 100000 in
theorem inv5 : ∀ j, j < 64 → Co.invC (wF 5 0 (fun _ => 0) (fun _ => 0) true 7) j = 5 := by decide +kernel
theorem smp5 (F : Nat → Int) (i j : Nat) (hi : i < 6) (hj : j < 64) : smp M5 0 1 1 F 7 i j = 5 := by
  have h1 : hasP M5.pt ((i : Int) + 1) = true := by
    rcases (by omega : i = 0 ∨ i = 1 ∨ i = 2 ∨ i = 3 ∨ i = 4 ∨ i = 5) with rfl | rfl | rfl | rfl | rfl | rfl <;> decide
  have h2 : pI M5.kd = true := by decide
  have h3 : qq M5 7 = 7 := by decide
  unfold smp
  rw [if_pos h1]
  unfold Pa.addF
  rw [show pP M5 0 1 1 F i j = 0 by unfold pP; rw [if_pos h2], show rR M5 7 i j = 5 by unfold rR; rw [h2, h3]; exact inv5 j hj]
  decide
def f5 : Nat → Int := layS 0 1 1 (fun _ _ => 5) (fun _ => 128) 6
theorem f5_vals : (∀ i, i < 16 → f5 i = 5) ∧ f5 16 = 128 := by unfold f5; decide +kernel
theorem mac5 : macE M5 0 1 1 38016 0 7 = 0 ∧ macE M5 0 1 1 38016 0 0 = 3 := by decide +kernel
set_option maxRecDepth 100000 in
set_option maxHeartbeats 2000000 in
theorem begins_yes (a : Option Addr) (n c : Nat) (f : Nat → Int) (x y : Int) (w : World) (hs : Sl .u8 w (.slice a n c) n f) (hn : 16 < n) (hx : ∀ i, i < 16 → f i = x) (hy : f 16 = y) :
    Calls Tryz.prog 40 #[.slice a n c, .int .u8 x, .int .u8 y] w fun e w' => e = .returned (.bool true) ∧ w = w' := by
  obtain ⟨a', c', e, h1, h2, h3⟩ := hs
  cases e
  rcases h3 with ⟨h3, _⟩ | ⟨b, o, rfl, h3, h4⟩
  · omega
  have HI := Lib.hid h4
  have e16 := h4 16 hn
  rw [hy] at e16
  have hn' : (16 : Int) < (n : Int) := by omega
  clear h4 hy h3
  go_enter Tryz.func40, Tryz.ntmps40
  go_wp2_with fail
  go_loopw [7] (fun t wr => ∃ k : Nat, k ≤ 16 ∧ t = .int .i64 k ∧ wr = w) (fun t _ => 16 - (intOf t).toNat)
  case atStart => exact ⟨0, by omega, rfl, rfl⟩
  case round =>
    obtain ⟨k, hk, rfl, rfl⟩ := hrel
    by_cases hk6 : k < 16
    · have kb : (0 : Int) ≤ (k : Int) ∧ (k : Int) < 16 := by omega
      have kn : (k : Int) < (n : Int) := by omega
      have ek := HI.out k (by omega)
      rw [hx k hk6] at ek
      go_wp2_with fail
      go_roundw
      case rel => exact ⟨k + 1, by omega, by go_num, trivial⟩
      case measure => simp [intOf]; omega
    · have hk7 : k = 16 := by omega
      have kb : ¬ (k : Int) < 16 := by omega
      clear hk hk6
      go_wp2_with fail
      go_ret
      exact ⟨rfl, rfl⟩
theorem res_arr {k : IntKind} {B : Nat} {w : World} {v : Value} {n : Nat} {f : Nat → Int} (h : Res k B w v n f) (hn : 0 < n) : ∃ g c, v = .slice (some ⟨g, 0, none⟩) n c ∧ B ≤ g ∧ g < w.heap.size ∧ n ≤ c ∧ c ≤ maxLen ∧ Arr w k g n f := by
  rcases h with ⟨h0, _⟩ | h
  · omega
  · exact h
theorem arr_part {w : World} {g N c : Nat} {F : Nat → Int} (h : Arr w .u8 g N F) (h0 : 0 < N) (hc : N ≤ c) (hm : c ≤ maxLen) : Sl .u8 w (.slice (some ⟨g, 0, none⟩) N c) N F :=
  ⟨_, c, rfl, hc, hm, .inr ⟨g, 0, rfl, h.lt h0, h.ints⟩⟩
theorem nil_sl (w : World) (F : Nat → Int) : Sl .u8 w (.slice none 0 0) 0 F := ⟨none, 0, rfl, Nat.le_refl _, Nat.zero_le _, .inl ⟨rfl, fun _ => rfl⟩⟩
theorem mac5_yes (b c : Nat) (f : Nat → Int) (vb : Value) (w : World) (hA : Arr w .u8 b 38016 f) (hc : 38016 ≤ c) (hb : M5.at w vb) :
    Calls Tryz.prog 16 #[.slice (some ⟨b, 0, none⟩) 38016 c, .slice none 0 0, sp 0 1 1, mv M5 vb, .int .i64 7] w fun e w' => e = .returned (.int .i64 0) ∧ Arr w' .u8 b 38016 (layS 0 1 1 (fun _ _ => 5) f 6) ∧ w.grownBy w' (some b) := by
  have := Macro_any M5 vb b 38016 38016 c none 0 0 f (fun _ => 0) 0 1 1 7 w hA (Nat.le_refl _) hc (by omega) (nil_sl w _) (fun _ => by omega) hb
  unfold macF at this
  rw [mac5.1, if_pos rfl] at this
  rw [layS_congr 0 1 1 _ (fun _ _ => 5) f 6 (fun i hi j hj => smp5 _ i j hi hj)] at this
  exact this
theorem mac5_no (b c : Nat) (f : Nat → Int) (vb : Value) (w : World) (hA : Arr w .u8 b 38016 f) (hc : 38016 ≤ c) (hb : M5.at w vb) :
    Calls Tryz.prog 16 #[.slice (some ⟨b, 0, none⟩) 38016 c, .slice none 0 0, sp 0 1 1, mv M5 vb, .int .i64 0] w fun e w' => e = .returned (.int .i64 3) ∧ Arr w' .u8 b 38016 f ∧ w.grownBy w' (some b) := by
  have := Macro_any M5 vb b 38016 38016 c none 0 0 f (fun _ => 0) 0 1 1 0 w hA (Nat.le_refl _) hc (by omega) (nil_sl w _) (fun _ => by omega) hb
  unfold macF at this
  rw [mac5.2, if_neg (by decide)] at this
  exact this
set_option maxRecDepth 100000 in
set_option maxHeartbeats 2000000 in
theorem awake_any (w : World) : Calls Tryz.prog 10 #[] w fun e w' => e = .returned (.bool true) ∧ Below w.heap.size w w' := by
  have HG : Hid (∀ V, Calls Tryz.prog 30 #[.int .i64 0] V fun e w' => ∃ v, e = .returned v ∧ Res .u8 V.heap.size w' v 38016 (fun _ => 128) ∧ Below V.heap.size V w') := Lib.hid (fun V => Pa.Grey_any 0 V)
  go_enter Tryz.func10, Tryz.ntmps10
  go_wp2_with fail
  refine (HG.out _).mono ?_
  rintro e w1 ⟨v, rfl, hR, b1⟩
  obtain ⟨g, c, rfl, g1, g2, g3, g4, hA⟩ := res_arr hR (by omega)
  have HA := Lib.hid hA
  have HB := Lib.hid b1
  clear hA hR b1
  go_wp2_with fail
  refine (qcif_any 1 _).mono ?_
  rintro e w2 ⟨rfl, b2⟩
  have HA := Lib.hid (HA.out.below b2 g2)
  have HB := Lib.hid (chain HB.out b2)
  clear b2
  go_wp2_with fail
  refine (five_any _).mono ?_
  rintro e w3 ⟨vb, rfl, hM, b3⟩
  have HA := Lib.hid (HA.out.below b3 (HA.out.lt (by omega)))
  have HB := Lib.hid (chain HB.out b3)
  have HM := Lib.hid hM
  clear b3 hM
  go_wp2_with fail
  refine (mac5_yes g c _ vb _ HA.out g3 HM.out).mono ?_
  rintro e w4 ⟨rfl, hA, h4⟩
  have HA : Hid (Arr w4 .u8 g 38016 f5) := Lib.hid hA
  have HB := Lib.hid (HB.out.grown h4 HB.out.size (fun q e => by have := Option.some.inj e; omega))
  clear hA h4 HM
  go_wp2_with fail
  refine (begins_yes _ 38016 c f5 5 128 _ (arr_part HA.out (by omega) g3 g4) (by omega) f5_vals.1 f5_vals.2).mono ?_
  rintro e w5 ⟨rfl, rfl⟩
  go_wp2_with fail
  refine (qcif_any 1 _).mono ?_
  rintro e w2 ⟨rfl, b2⟩
  have HA := Lib.hid (HA.out.below b2 (HA.out.lt (by omega)))
  have HB := Lib.hid (chain HB.out b2)
  clear b2
  go_wp2_with fail
  refine (five_any _).mono ?_
  rintro e w3 ⟨vb, rfl, hM, b3⟩
  have HA := Lib.hid (HA.out.below b3 (HA.out.lt (by omega)))
  have HB := Lib.hid (chain HB.out b3)
  have HM := Lib.hid hM
  clear b3 hM
  go_wp2_with fail
  refine (mac5_no g c _ vb _ HA.out g3 HM.out).mono ?_
  rintro e w4 ⟨rfl, hA, h4⟩
  have HB := Lib.hid (HB.out.grown h4 HB.out.size (fun q e => by have := Option.some.inj e; omega))
  clear hA h4 HM
  go_wp2_with fail
  go_ret
  exact ⟨rfl, HB.out⟩
end Bl
end Go.Proofs.YtbmglemjfodfhaaGreat
