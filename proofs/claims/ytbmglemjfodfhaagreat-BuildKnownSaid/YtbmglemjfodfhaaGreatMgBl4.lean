/- BuildKnown. -/
import Derived.Test.YtbmglemjfodfhaaGreatMgBl2
import Derived.Test.YtbmglemjfodfhaaGreatMgNxt2
import Derived.Deep.RegionWith
set_option linter.unusedVariables false
set_option linter.unusedSimpArgs false

namespace Go.Proofs.YtbmglemjfodfhaaGreat
open Go.RowKit
namespace Bl
open Bk Fr Pt Kd Bu

/-- four boxes. -/
theorem boxes4 (w : World) (a b c d : Array Value) (t1 t2 t3 t4 : TypeId) :
    At ((((w.alloc (.cells a t1)).alloc (.cells b t2)).alloc (.cells c t3)).alloc (.cells d t4)) w.heap.size a t1
    ∧ At ((((w.alloc (.cells a t1)).alloc (.cells b t2)).alloc (.cells c t3)).alloc (.cells d t4)) (w.heap.size + 1) b t2
    ∧ At ((((w.alloc (.cells a t1)).alloc (.cells b t2)).alloc (.cells c t3)).alloc (.cells d t4)) (w.heap.size + 1 + 1) c t3
    ∧ At ((((w.alloc (.cells a t1)).alloc (.cells b t2)).alloc (.cells c t3)).alloc (.cells d t4)) (w.heap.size + 1 + 1 + 1) d t4
    ∧ Below w.heap.size w ((((w.alloc (.cells a t1)).alloc (.cells b t2)).alloc (.cells c t3)).alloc (.cells d t4)) := by
  obtain ⟨w1, e1⟩ : ∃ x, x = w.alloc (.cells a t1) := ⟨_, rfl⟩
  have z1 : w1.heap.size = w.heap.size + 1 := by rw [e1]; simp
  obtain ⟨w2, e2⟩ : ∃ x, x = w1.alloc (.cells b t2) := ⟨_, rfl⟩
  have z2 : w2.heap.size = w.heap.size + 1 + 1 := by rw [e2]; simp [z1]
  obtain ⟨w3, e3⟩ : ∃ x, x = w2.alloc (.cells c t3) := ⟨_, rfl⟩
  have z3 : w3.heap.size = w.heap.size + 1 + 1 + 1 := by rw [e3]; simp [z2]
  rw [← e1, ← e2, ← e3]
  have b1 : Below w.heap.size w w1 := by rw [e1]; exact (Below.refl _ _).alloc (Nat.le_refl _) _
  have b2 : Below w1.heap.size w1 w2 := by rw [e2]; exact (Below.refl _ _).alloc (Nat.le_refl _) _
  have b3 : Below w2.heap.size w2 w3 := by rw [e3]; exact (Below.refl _ _).alloc (Nat.le_refl _) _
  have b4 : Below w3.heap.size w3 (w3.alloc (.cells d t4)) := (Below.refl _ _).alloc (Nat.le_refl _) _
  have a1 : At w1 w.heap.size a t1 := by rw [e1]; exact At.new w a t1
  have a2 : At w2 (w.heap.size + 1) b t2 := by rw [e2, ← z1]; exact At.new w1 b t2
  have a3 : At w3 (w.heap.size + 1 + 1) c t3 := by rw [e3, ← z2]; exact At.new w2 c t3
  have a4 : At (w3.alloc (.cells d t4)) (w.heap.size + 1 + 1 + 1) d t4 := by rw [← z3]; exact At.new w3 d t4
  exact ⟨((a1.below b2).below b3).below b4, (a2.below b3).below b4, a3.below b4, a4, chain (chain (chain b1 b2) b3) b4⟩
section
set_option maxRecDepth 100000
set_option maxHeartbeats 2000000
theorem refuses_no (k E : Int) (hk : (k = 2 ∧ E = 8) ∨ (k = 1 ∧ E = 2)) (ta : Option Addr) (c : Nat) (w : World) :
    Calls Tryz.prog 75 #[.slice ta 38016 c, .slice none 0 0, .int .i64 0, .agg #[.int .i64 k, .int .i64 0, .slice none 0 0, .slice none 0 0]] w fun e w' => e = .returned (.int .i64 E) ∧ Below w.heap.size w w' := by
  have HS := Lib.hid (fun V => Size_any 0 V)
  have HN := Lib.hid (fun V => Nx.Next_any 0 k V)
  have e1 : fE 0 = 0 := rfl
  have e2 : zV 0 = 38016 := rfl
  rw [e1, e2] at HS
  have HB := Lib.hid ((Below.refl w.heap.size w).alloc (Nat.le_refl _) (.cells #[.int .i64 k, .int .i64 0, .slice none 0 0, .slice none 0 0] 56))
  have H5 : Hid (At _ _ _ _) := Lib.hid (At.new w #[.int .i64 k, .int .i64 0, .slice none 0 0, .slice none 0 0] 56)
  have k0 := H5.out.cell 0 _ rfl
  clear e1 e2
  rcases hk with ⟨rfl, rfl⟩ | ⟨rfl, rfl⟩
  · rw [show Nx.nV 0 2 = 0 by decide, show Nx.nEr 0 2 = 8 by decide] at HN
    go_enter Tryz.func75, Tryz.ntmps75
    go_wp2_with (first
      | (go_at_call 73; refine (HS.out _).mono ?_; rintro e w1 ⟨rfl, rfl⟩)
      | (go_at_call 123; refine (HN.out _).mono ?_; rintro e w2 ⟨rfl, b2⟩; have HB := Lib.hid (chain HB.out b2); have H5 := Lib.hid (H5.out.below b2); clear b2 k0; have k0 := H5.out.cell 0 _ rfl; have k1 := H5.out.cell 1 _ rfl))
    go_ret
    exact ⟨rfl, HB.out⟩
  · rw [show Nx.nV 0 1 = 3 by decide, show Nx.nEr 0 1 = 0 by decide] at HN
    go_enter Tryz.func75, Tryz.ntmps75
    go_wp2_with (first
      | (go_at_call 73; refine (HS.out _).mono ?_; rintro e w1 ⟨rfl, rfl⟩)
      | (go_at_call 123; refine (HN.out _).mono ?_; rintro e w2 ⟨rfl, b2⟩; have HB := Lib.hid (chain HB.out b2); have H5 := Lib.hid (H5.out.below b2); clear b2 k0; have k0 := H5.out.cell 0 _ rfl; have k1 := H5.out.cell 1 _ rfl))
    go_ret
    exact ⟨rfl, HB.out⟩
theorem grp_no (k E : Int) (hk : (k = 2 ∧ E = 8) ∨ (k = 1 ∧ E = 2)) (ta : Option Addr) (c : Nat) (w : World) :
    Calls Tryz.prog 35 #[.slice ta 38016 c, .slice none 0 0, .int .i64 0, .agg #[.int .i64 k, .int .i64 0, .slice none 0 0, .slice none 0 0]] w fun e w' => e = .returned (.int .i64 E) ∧ Below w.heap.size w w' := by
  have HR := Lib.hid (fun V => refuses_no k E hk ta c V)
  have t1 : (E != 0) = true := by rcases hk with ⟨_, rfl⟩ | ⟨_, rfl⟩ <;> decide
  obtain ⟨a1, a2, a3, a4, bb⟩ := boxes4 w #[.slice ta 38016 c] #[.slice none 0 0] #[.int .i64 0] #[.int .i64 k, .int .i64 0, .slice none 0 0, .slice none 0 0] 30 30 3 56
  have HB := Lib.hid bb
  have k0 := a1.cell 0 _ rfl
  have k1 := a2.cell 0 _ rfl
  have k2 := a3.cell 0 _ rfl
  have k3 := a4.cell 0 _ rfl
  have k4 := a4.cell 1 _ rfl
  have k5 := a4.cell 2 _ rfl
  have k6 := a4.cell 3 _ rfl
  clear hk bb a1 a2 a3 a4
  go_enter Tryz.func35, Tryz.ntmps35
  go_wp2_with (go_at_call 75; refine (HR.out _).mono ?_; rintro e w1 ⟨rfl, b1⟩; have HB := Lib.hid (chain HB.out b1); clear b1 k0 k1 k2 k3 k4 k5 k6)
  go_ret
  exact ⟨rfl, HB.out⟩
end
/-- the macroblock that is moved out of the picture. -/
def MV : MB := ⟨1, 5, 0, -1, 0, 0, 0, fun _ => 0, fun _ => none, fun _ => 0, fun _ => 0, fun _ _ => 0, fun _ _ => 0⟩
theorem MV_at (w : World) : MV.at w (.slice none 0 0) := ⟨none, 0, rfl, Nat.le_refl _, Nat.zero_le _, .inl rfl⟩
theorem known_e : smE M5 0 1 1 0 7 = 0 ∧ smE M5 0 1 1 2 7 = 2 ∧ smE M5 0 1 2 0 7 = 2 ∧ smE MV 0 1 1 0 7 = 12 ∧ cE 0 1 1 = 0 ∧ cE 0 1 2 = 0 := by decide +kernel
def n5 : Nat → Int := Pa.copF 0 1 1 (fun _ => 128) (fun _ => 0) 6
theorem n5_vals : (∀ i, i < 16 → n5 i = 128) ∧ n5 16 = 0 := by unfold n5; decide +kernel
def two (i : Nat) : Int := if i = 0 then 1 else 2
/-- what BuildKnown's calls find. -/
structure KN (gg cg gn gt : Nat) (W w : World) : Prop where
  g : Arr w .u8 gg 38016 (fun _ => 128)
  n : Arr w .u8 gn 38016 (fun _ => 0)
  t : Sl .u8 w (.slice (some ⟨gt, 0, none⟩) 2 2) 2 two
  bel : Below W.heap.size W w
  gnb : W.heap.size ≤ gn
theorem KN.below {gg cg gn gt : Nat} {W w w' : World} (h : KN gg cg gn gt W w) (hb : Below w.heap.size w w') : KN gg cg gn gt W w' :=
  ⟨h.g.below hb (h.g.lt (by omega)), h.n.below hb (h.n.lt (by omega)), h.t.below hb, chain h.bel hb, h.gnb⟩
section
variable {gg cg gn gt : Nat} {W w : World}
theorem KN.m1 (h : KN gg cg gn gt W w) (vb : Value) :
    Calls Tryz.prog 16 #[.slice (some ⟨gt, 0, none⟩) 2 2, .slice none 0 0, sp 0 1 1, mv M5 vb, .int .i64 7] w fun e w' => e = .returned (.int .i64 2) ∧ Below w.heap.size w w' :=
  (mac_no2 M5 vb 2 2 none 0 0 0 1 1 7 w known_e.2.2.2.2.1 (by decide) _)
theorem KN.m2 (h : KN gg cg gn gt W w) (vb : Value) (hb : M5.at w vb) :
    Calls Tryz.prog 16 #[.slice (some ⟨gg, 0, none⟩) 38016 cg, .slice (some ⟨gt, 0, none⟩) 2 2, sp 0 1 1, mv M5 vb, .int .i64 7] w fun e w' => e = .returned (.int .i64 2) ∧ Below w.heap.size w w' := by
  have := mac_no3 M5 vb 38016 cg (some ⟨gt, 0, none⟩) 2 2 two 0 1 1 7 w known_e.2.2.2.2.1 (by decide) (some ⟨gg, 0, none⟩) h.t (fun i => by unfold two; split <;> omega) hb (by rw [known_e.2.1]; decide)
  rw [known_e.2.1] at this
  exact this
theorem KN.m3 (h : KN gg cg gn gt W w) (vb : Value) (hb : M5.at w vb) :
    Calls Tryz.prog 16 #[.slice (some ⟨gg, 0, none⟩) 38016 cg, .slice none 0 0, sp 0 1 2, mv M5 vb, .int .i64 7] w fun e w' => e = .returned (.int .i64 2) ∧ Below w.heap.size w w' := by
  have := mac_no3 M5 vb 38016 cg none 0 0 (fun _ => 0) 0 1 2 7 w known_e.2.2.2.2.2 (by decide) (some ⟨gg, 0, none⟩) (nil_sl _ _) (fun _ => (show (0 : Int) ≤ 0 ∧ (0 : Int) ≤ 255 by omega)) hb (by rw [known_e.2.2.1]; decide)
  rw [known_e.2.2.1] at this
  exact this
theorem KN.m4 (h : KN gg cg gn gt W w) :
    Calls Tryz.prog 16 #[.slice (some ⟨gg, 0, none⟩) 38016 cg, .slice none 0 0, sp 0 1 1, .agg #[.int .i64 1, .int .i64 5, .int .i64 0, .int .i64 (-1), .int .i64 0, .int .i64 0, .slice none 0 0], .int .i64 7] w fun e w' => e = .returned (.int .i64 12) ∧ Below w.heap.size w w' := by
  have := mac_no3 MV (.slice none 0 0) 38016 cg none 0 0 (fun _ => 0) 0 1 1 7 w known_e.2.2.2.2.1 (by decide) (some ⟨gg, 0, none⟩) (nil_sl _ _) (fun _ => (show (0 : Int) ≤ 0 ∧ (0 : Int) ≤ 255 by omega)) (MV_at w) (by rw [known_e.2.2.2.1]; decide)
  rw [known_e.2.2.2.1] at this
  exact this
end
theorem make_38 : ∃ MK : World → World, ∀ w : World, (Instr.makeSlice 30 (.int .i64 38016) (.int .i64 38016)).run Tryz.prog w = .ok (.slice (some ⟨w.heap.size, 0, none⟩) 38016 38016) (MK w) ∧ Arr (MK w) .u8 w.heap.size 38016 (fun _ => 0) ∧ Below w.heap.size w (MK w) := by
  obtain ⟨i0, hi, hz0, hz1, hz2⟩ := info_parts info_byte
  have : ∀ w : World, ∃ w', (Instr.makeSlice 30 (.int .i64 38016) (.int .i64 38016)).run Tryz.prog w = .ok (.slice (some ⟨w.heap.size, 0, none⟩) 38016 38016) w' ∧ Arr w' .u8 w.heap.size 38016 (fun _ => 0) ∧ Below w.heap.size w w' := fun w => by
    obtain ⟨w', h1, h2, h3⟩ := run_make_full (P := Tryz.prog) w w.heap.size 30 5 i0 (.int .u8 0) 1 Tryz.underlying30 hi hz0 hz1 .i64 .i64 38016 (by rw [hz2]; omega) (by unfold maxLen; omega) (Nat.le_refl _)
    exact ⟨w', h1, Mo.made_arr h2, (Below.refl w.heap.size w).grown h3 (Nat.le_refl _) (fun _ e => by cases e)⟩
  exact ⟨fun w => Classical.choose (this w), fun w => Classical.choose_spec (this w)⟩
theorem two_new (V : World) : Sl .u8 (V.alloc (.cells #[.int .u8 1, .int .u8 2] 5)) (.slice (some ⟨V.heap.size, 0, none⟩) 2 2) 2 two :=
  arr_part (Arr.new V .u8 #[.int .u8 1, .int .u8 2] 5 2 two (fun i hi => by
    rcases (by omega : i = 0 ∨ i = 1) with rfl | rfl <;> rfl)) (by omega) (Nat.le_refl _) (by unfold maxLen; omega)
section
variable {gg cg : Nat} {W V0 w1 : World} {MK : World → World}
abbrev twoO : Obj := .cells #[.int .u8 1, .int .u8 2] 5
theorem kn_gmb (hM : ∀ w : World, Arr (MK w) .u8 w.heap.size 38016 (fun _ => 0) ∧ Below w.heap.size w (MK w)) (h0 : Below W.heap.size W V0) (b1 : Below V0.heap.size V0 w1) (hA : Arr w1 .u8 gg 38016 (fun _ => 128)) : KN gg cg w1.heap.size (MK w1).heap.size W ((MK w1).alloc twoO) := by
  have b2 := (hM w1).2
  have b3 := (Below.refl (MK w1).heap.size (MK w1)).alloc (Nat.le_refl _) twoO
  have a2 := hA.below b2 (hA.lt (by omega))
  have n1 := (hM w1).1
  exact ⟨a2.below b3 (a2.lt (by omega)), n1.below b3 (n1.lt (by omega)), two_new _, chain (chain (chain h0 b1) b2) b3, Nat.le_trans h0.size b1.size⟩
theorem kn_gbm (hM : ∀ w : World, Arr (MK w) .u8 w.heap.size 38016 (fun _ => 0) ∧ Below w.heap.size w (MK w)) (h0 : Below W.heap.size W V0) (b1 : Below V0.heap.size V0 w1) (hA : Arr w1 .u8 gg 38016 (fun _ => 128)) : KN gg cg (w1.heap.size + 1) w1.heap.size W (MK (w1.alloc twoO)) := by
  have b3 := (Below.refl w1.heap.size w1).alloc (Nat.le_refl _) twoO
  have b2 := (hM (w1.alloc twoO)).2
  have a2 := hA.below b3 (hA.lt (by omega))
  have a3 := (hM (w1.alloc twoO)).1
  rw [World.size_alloc] at a3
  exact ⟨a2.below b2 (a2.lt (by omega)), a3, (two_new w1).below b2, chain (chain (chain h0 b1) b3) b2, Nat.le_trans (Nat.le_trans h0.size b1.size) (Nat.le_succ _)⟩
theorem kn_mgb (hM : ∀ w : World, Arr (MK w) .u8 w.heap.size 38016 (fun _ => 0) ∧ Below w.heap.size w (MK w)) (h0 : Below W.heap.size W V0) (b1 : Below (MK V0).heap.size (MK V0) w1) (hA : Arr w1 .u8 gg 38016 (fun _ => 128)) : KN gg cg V0.heap.size w1.heap.size W (w1.alloc twoO) := by
  have b3 := (Below.refl w1.heap.size w1).alloc (Nat.le_refl _) twoO
  have n1 := (hM V0).1
  have n2 := n1.below b1 (n1.lt (by omega))
  exact ⟨hA.below b3 (hA.lt (by omega)), n2.below b3 (n2.lt (by omega)), two_new w1, chain (chain (chain h0 (hM V0).2) b1) b3, h0.size⟩
theorem kn_mbg (hM : ∀ w : World, Arr (MK w) .u8 w.heap.size 38016 (fun _ => 0) ∧ Below w.heap.size w (MK w)) (h0 : Below W.heap.size W V0) (b1 : Below ((MK V0).alloc twoO).heap.size ((MK V0).alloc twoO) w1) (hA : Arr w1 .u8 gg 38016 (fun _ => 128)) : KN gg cg V0.heap.size (MK V0).heap.size W w1 := by
  have b3 := (Below.refl (MK V0).heap.size (MK V0)).alloc (Nat.le_refl _) twoO
  have n1 := (hM V0).1
  have n2 := n1.below b3 (n1.lt (by omega))
  exact ⟨hA, n2.below b1 (n2.lt (by omega)), (two_new _).below b1, chain (chain (chain h0 (hM V0).2) b3) b1, h0.size⟩
theorem kn_bgm (hM : ∀ w : World, Arr (MK w) .u8 w.heap.size 38016 (fun _ => 0) ∧ Below w.heap.size w (MK w)) (b1 : Below (W.alloc twoO).drew.heap.size (W.alloc twoO).drew w1) (hA : Arr w1 .u8 gg 38016 (fun _ => 128)) : KN gg cg w1.heap.size W.heap.size W (MK w1) := by
  have b3 := ((Below.refl W.heap.size W).alloc (Nat.le_refl _) twoO)
  have b4 := (Below.refl (W.alloc twoO).heap.size (W.alloc twoO)).drew
  have b2 := (hM w1).2
  exact ⟨hA.below b2 (hA.lt (by omega)), (hM w1).1, (((two_new W).below b4).below b1).below b2, chain (chain (chain b3 b4) b1) b2, (chain (chain b3 b4) b1).size⟩
theorem kn_bmg (hM : ∀ w : World, Arr (MK w) .u8 w.heap.size 38016 (fun _ => 0) ∧ Below w.heap.size w (MK w)) (b1 : Below (MK (W.alloc twoO).drew).heap.size (MK (W.alloc twoO).drew) w1) (hA : Arr w1 .u8 gg 38016 (fun _ => 128)) : KN gg cg (W.heap.size + 1) W.heap.size W w1 := by
  have b3 := ((Below.refl W.heap.size W).alloc (Nat.le_refl _) twoO)
  have b4 := (Below.refl (W.alloc twoO).heap.size (W.alloc twoO)).drew
  have n1 := (hM (W.alloc twoO).drew).1
  have b2 := (hM (W.alloc twoO).drew).2
  have n2 := n1.below b1 (n1.lt (by omega))
  have e : (W.alloc twoO).drew.heap.size = W.heap.size + 1 := World.size_alloc ..
  rw [e] at n2
  exact ⟨hA, n2, (((two_new W).below b4).below b2).below b1, chain (chain (chain b3 b4) b2) b1, Nat.le_succ _⟩
end
set_option maxRecDepth 100000 in
set_option maxHeartbeats 4000000 in
theorem BuildKnown_any (w : World) : Calls Tryz.prog 7 #[] w fun e w' => e = .returned (.bool true) ∧ Below w.heap.size w w' := by
  obtain ⟨MK, hMK⟩ := make_38
  have HG : Hid (∀ V, Calls Tryz.prog 30 #[.int .i64 0] V fun e w' => ∃ v, e = .returned v ∧ Res .u8 V.heap.size w' v 38016 (fun _ => 128) ∧ Below V.heap.size V w') := Lib.hid (fun V => Pa.Grey_any 0 V)
  have hmk := fun w => (hMK w).1
  have HM := Lib.hid (fun w => (hMK w).2)
  clear hMK
  have H0 := Lib.hid ((Below.refl w.heap.size w).drew)
  go_enter Tryz.func7, Tryz.ntmps7
  go_upto_region 1 with fail
  go_cut [1, 2, 3] (fun u v t wx => ∃ gg cg gn gt : Nat, u = .slice (some ⟨gg, 0, none⟩) 38016 cg ∧ v = .slice (some ⟨gn, 0, none⟩) 38016 38016 ∧ t = .slice (some ⟨gt, 0, none⟩) 2 2 ∧ 38016 ≤ cg ∧ cg ≤ maxLen ∧ Hid (KN gg cg gn gt w wx))
  case first =>
    go_region_with (go_at_call 30; refine (HG.out _).mono ?_; rintro e w1 ⟨v, rfl, hR, b1⟩; obtain ⟨gg, cg, rfl, g1, g2, g3, g4, hA⟩ := res_arr hR (by omega); have HA := Lib.hid hA; have B1 := Lib.hid b1; clear hR hA b1)
    all_goals go_wp2_with fail
    all_goals go_meet
    all_goals (first
      | exact ⟨gg, cg, _, _, rfl, rfl, rfl, g3, g4, Lib.hid (kn_gmb HM.out H0.out B1.out HA.out)⟩
      | exact ⟨gg, cg, _, _, rfl, rfl, rfl, g3, g4, Lib.hid (kn_gbm HM.out H0.out B1.out HA.out)⟩
      | exact ⟨gg, cg, _, _, rfl, rfl, rfl, g3, g4, Lib.hid (kn_mgb (V0 := w.drew) HM.out H0.out B1.out HA.out)⟩
      | exact ⟨gg, cg, _, _, rfl, rfl, rfl, g3, g4, Lib.hid (kn_mbg (V0 := w.drew) HM.out H0.out B1.out HA.out)⟩
      | exact ⟨gg, cg, _, _, rfl, rfl, rfl, g3, g4, Lib.hid (kn_bgm HM.out B1.out HA.out)⟩
      | exact ⟨gg, cg, _, _, rfl, rfl, rfl, g3, g4, Lib.hid (kn_bmg HM.out B1.out HA.out)⟩)
  case rest =>
  obtain ⟨gg, cg, gn, gt, rfl, rfl, rfl, g3, g4, HK⟩ := hcut
  have HSM : Hid (∀ V vb, M5.at V vb → Calls Tryz.prog 15 #[.slice none 0 0, sp 0 1 1, mv M5 vb, .int .i64 7] V fun e w' => ∃ v, e = .returned (.tuple #[v, .int .i64 0]) ∧ Six V.heap.size w' v (fun _ _ => 5) ∧ Below V.heap.size V w') := Lib.hid (fun V vb hb => by
    have := Samples_any M5 vb none 0 0 (fun _ => 0) 0 1 1 7 V (nil_sl _ _) (fun _ => (show (0 : Int) ≤ 0 ∧ (0 : Int) ≤ 255 by omega)) hb
    rw [known_e.1] at this
    refine this.mono ?_
    rintro e w' ⟨v, h1, h2, _, h3⟩
    obtain ⟨g, c, Vs, e1, r1, r2, r3, r4, r5⟩ := h2 rfl
    refine ⟨v, h1, ⟨g, c, Vs, e1, r1, r2, r3, r4, fun i hi => ⟨(r5 i hi).1, ?_⟩⟩, h3⟩
    rcases (r5 i hi).2 with h | ⟨gi, ci, q1, q2, q3, q4, q5, q6⟩
    · exact .inl h
    · exact .inr ⟨gi, ci, q1, q2, q3, q4, q5, q6.congr (fun j hj => smp5 _ i j hi hj)⟩)
  clear HM hmk HG H0
  go_wp2_with (first
    | (go_at_call 38; refine (qcif_any _ _).mono ?_; rintro e w2 ⟨rfl, b2⟩; have HK := Lib.hid (HK.out.below b2); clear b2)
    | (go_at_call 39; refine (five_any _).mono ?_; rintro e w3 ⟨vb, rfl, hM, b3⟩; have HM5 := Lib.hid hM; have HK := Lib.hid (HK.out.below b3); clear hM b3)
    | (go_at_call 15; refine (HSM.out _ _ HM5.out).mono ?_; rintro e w4 ⟨v, rfl, hv, b4⟩; obtain ⟨sg, sc, Vs, rfl, v1, v2, v3, v4⟩ := hv.row; have HK := Lib.hid (HK.out.below b4); have c0 := (v4 0 (by omega)).1; have HS0 := Lib.hid (v4 0 (by omega)).2.2; clear hv b4 v4; obtain ⟨sb0, so0, e0, hl0, hI0⟩ := Pa.sl_row HS0.out (by omega); cases e0; have c1 := hI0 0 (by omega); have c2 := hI0 63 (by omega); simp only [Nat.zero_add] at c1 c2; clear hI0 HS0))
  have bm := ((Below.refl w4.heap.size w4).alloc (Nat.le_refl _) (.cells #[.int .i64 1, .int .i64 5, .int .i64 0, .int .i64 (-1), .int .i64 0, .int .i64 0, .slice none 0 0] 24)).drew
  have HK := Lib.hid (HK.out.below bm)
  have HV : Hid (At _ _ _ _) := Lib.hid ((At.new w4 #[.int .i64 1, .int .i64 5, .int .i64 0, .int .i64 (-1), .int .i64 0, .int .i64 0, .slice none 0 0] 24).below (Below.refl _ _).drew)
  clear bm c0 c1 c2 HSM HM5
  generalize w4.alloc (.cells #[.int .i64 1, .int .i64 5, .int .i64 0, .int .i64 (-1), .int .i64 0, .int .i64 0, .slice none 0 0] 24) = W5 at *
  generalize w4.heap.size = mB at *
  have t0 := HV.out.cell 0 _ rfl
  have t1 := HV.out.cell 1 _ rfl
  have t2 := HV.out.cell 2 _ rfl
  have t3 := HV.out.cell 3 _ rfl
  have t4 := HV.out.cell 4 _ rfl
  have t5 := HV.out.cell 5 _ rfl
  have t6 := HV.out.cell 6 _ rfl
  have T1 := Lib.hid trivial
  have T2 := Lib.hid trivial
  have T3 := Lib.hid trivial
  have T4 := Lib.hid trivial
  have T5 := Lib.hid trivial
  go_cut [7] (fun u wx => u = .bool true ∧ Hid (KN gg cg gn gt w wx))
  case first =>
    go_region_with (first
      | (go_at_call 38; refine (qcif_any _ _).mono ?_; rintro e w2 ⟨rfl, b2⟩; have HK := Lib.hid (HK.out.below b2); have HV := Lib.hid (HV.out.below b2); clear b2 t0 t1 t2 t3 t4 t5 t6 ; have t0 := HV.out.cell 0 _ rfl; have t1 := HV.out.cell 1 _ rfl; have t2 := HV.out.cell 2 _ rfl; have t3 := HV.out.cell 3 _ rfl; have t4 := HV.out.cell 4 _ rfl; have t5 := HV.out.cell 5 _ rfl; have t6 := HV.out.cell 6 _ rfl)
      | (go_at_call 39; refine (five_any _).mono ?_; rintro e w3 ⟨vb, rfl, hM, b2⟩; have HM5 := Lib.hid hM; have HK := Lib.hid (HK.out.below b2); have HV := Lib.hid (HV.out.below b2); clear hM b2 t0 t1 t2 t3 t4 t5 t6 ; have t0 := HV.out.cell 0 _ rfl; have t1 := HV.out.cell 1 _ rfl; have t2 := HV.out.cell 2 _ rfl; have t3 := HV.out.cell 3 _ rfl; have t4 := HV.out.cell 4 _ rfl; have t5 := HV.out.cell 5 _ rfl; have t6 := HV.out.cell 6 _ rfl)
      | (go_at_call 16; clear T1; refine (HK.out.m1 vb).mono ?_; rintro e w4 ⟨rfl, b2⟩; have HK := Lib.hid (HK.out.below b2); have HV := Lib.hid (HV.out.below b2); clear b2 t0 t1 t2 t3 t4 t5 t6 ; have t0 := HV.out.cell 0 _ rfl; have t1 := HV.out.cell 1 _ rfl; have t2 := HV.out.cell 2 _ rfl; have t3 := HV.out.cell 3 _ rfl; have t4 := HV.out.cell 4 _ rfl; have t5 := HV.out.cell 5 _ rfl; have t6 := HV.out.cell 6 _ rfl)
      | (go_at_call 16; clear T2; refine (HK.out.m2 vb HM5.out).mono ?_; rintro e w4 ⟨rfl, b2⟩; have HK := Lib.hid (HK.out.below b2); have HV := Lib.hid (HV.out.below b2); clear b2 t0 t1 t2 t3 t4 t5 t6 ; have t0 := HV.out.cell 0 _ rfl; have t1 := HV.out.cell 1 _ rfl; have t2 := HV.out.cell 2 _ rfl; have t3 := HV.out.cell 3 _ rfl; have t4 := HV.out.cell 4 _ rfl; have t5 := HV.out.cell 5 _ rfl; have t6 := HV.out.cell 6 _ rfl)
      | (go_at_call 16; clear T3; refine (HK.out.m3 vb HM5.out).mono ?_; rintro e w4 ⟨rfl, b2⟩; have HK := Lib.hid (HK.out.below b2); have HV := Lib.hid (HV.out.below b2); clear b2 t0 t1 t2 t3 t4 t5 t6 ; have t0 := HV.out.cell 0 _ rfl; have t1 := HV.out.cell 1 _ rfl; have t2 := HV.out.cell 2 _ rfl; have t3 := HV.out.cell 3 _ rfl; have t4 := HV.out.cell 4 _ rfl; have t5 := HV.out.cell 5 _ rfl; have t6 := HV.out.cell 6 _ rfl)
      | (go_at_call 16; clear T4; refine (HK.out.m4).mono ?_; rintro e w4 ⟨rfl, b2⟩; have HK := Lib.hid (HK.out.below b2); have HV := Lib.hid (HV.out.below b2); clear b2 t0 t1 t2 t3 t4 t5 t6 ; have t0 := HV.out.cell 0 _ rfl; have t1 := HV.out.cell 1 _ rfl; have t2 := HV.out.cell 2 _ rfl; have t3 := HV.out.cell 3 _ rfl; have t4 := HV.out.cell 4 _ rfl; have t5 := HV.out.cell 5 _ rfl; have t6 := HV.out.cell 6 _ rfl))
    all_goals (go_wp2_with fail; go_meet; exact ⟨rfl, HK⟩)
  case rest =>
  obtain ⟨rfl, HK⟩ := hcut
  clear t0 t1 t2 t3 t4 t5 t6 HV
  go_wp2_with (first
    | (go_at_call 38; refine (qcif_any _ _).mono ?_; rintro e w2 ⟨rfl, b2⟩; have HK := Lib.hid (HK.out.below b2); clear b2)
    | (go_at_call 26; refine (skip_yes gn 38016 38016 38016 none 0 0 (fun _ => 0) (fun _ => 0) 0 1 1 w2 HK.out.n (Nat.le_refl _) (Nat.le_refl _) (by omega) known_e.2.2.2.2.1 (by decide) (.inl rfl) (nil_sl _ _) (fun h => absurd h (by omega))).mono ?_; rintro e w3 ⟨rfl, hA, hG⟩; have HN : Hid (Arr w3 .u8 gn 38016 n5) := Lib.hid hA; have HB := Lib.hid (HK.out.bel.grown hG HK.out.bel.size (fun q e => by have := HK.out.gnb; have := Option.some.inj e; omega)); clear hA hG HK)
    | (go_at_call 40; refine (begins_yes _ 38016 38016 n5 128 0 _ (arr_part HN.out (by omega) (Nat.le_refl _) (by unfold maxLen; omega)) (by omega) n5_vals.1 n5_vals.2).mono ?_; rintro e w5 ⟨rfl, rfl⟩)
    | (go_at_call 10; refine (awake_any _).mono ?_; rintro e w6 ⟨rfl, b2⟩; have HB := Lib.hid (chain HB.out b2); clear b2)
    | (go_at_call 35; clear T5; refine (grp_no 2 8 (.inl ⟨rfl, rfl⟩) _ _ _).mono ?_; rintro e w7 ⟨rfl, b2⟩; have HB := Lib.hid (chain HB.out b2); clear b2)
    | (go_at_call 35; refine (grp_no 1 2 (.inr ⟨rfl, rfl⟩) _ _ _).mono ?_; rintro e w7 ⟨rfl, b2⟩; have HB := Lib.hid (chain HB.out b2); clear b2))
  go_ret
  exact ⟨rfl, HB.out⟩
end Bl
end Go.Proofs.YtbmglemjfodfhaaGreat
