/- PaintLays. -/
import Derived.Test.YtkeempljogjceaaPaB
import Derived.Test.YtkeempljogjceaaPick
import Derived.Test.YtkeempljogjceaaSpotIn
import Derived.Lib.MinMax
import Derived.Deep.RegionWith
import Derived.Deep.DeepCutAuto
namespace Go.Proofs.Ytkeempljogjceaa
open Go.RowKit
namespace Pa
open Fr Pt
section
set_option linter.unusedVariables false
theorem ls_pack (c : LC) (k : Int) (F : Nat → Int) (W V0 : World) (ok : c.ok W) (h : LS c W V0 (lentF c.N' F) F) (n g a : Int) (sp gi gf gL gM gS cL cM cS N N' M' M d : Nat) (q : Option Addr) (s F2 : Nat → Int)
    (hc : c = ⟨n, g, a, sp, gi, gf, gL, gM, gS, cL, cM, cS, N, N', M', M, q, d, s, F2⟩) :
    ∃ (St : Nat → World → Prop) (E1 E2 : Int), St 0 V0
      ∧ (∀ V, St 0 V → Calls Try.prog 28 #[.slice (some ⟨gL, 0, none⟩) N' cL, .agg #[.int .i64 n, .int .i64 g, .int .i64 a], .int .i64 k, .slice (some ⟨gS, 0, none⟩) M cS] V fun e w' => e = .returned (.int .i64 E1) ∧ St 1 w')
      ∧ (∀ V, St 1 V → Calls Try.prog 29 #[.slice (some ⟨gi, 0, none⟩) N' N, .agg #[.int .i64 n, .int .i64 g, .int .i64 a], .int .i64 k, .slice q M d] V fun e w' => e = .returned (.int .i64 E1) ∧ St 2 w')
      ∧ (∀ V, St 2 V → Calls Try.prog 23 #[.slice (some ⟨gL, 0, none⟩) N' cL, .slice (some ⟨gi, 0, none⟩) N' N] V fun e w' => e = .returned (.bool true) ∧ St 3 w')
      ∧ (∀ V, St 3 V → Calls Try.prog 23 #[.slice (some ⟨gS, 0, none⟩) M cS, .slice q M d] V fun e w' => e = .returned (.bool true) ∧ St 4 w')
      ∧ (∀ V, St 4 V → Calls Try.prog 12 #[.slice (some ⟨gL, 0, none⟩) N' cL, .slice (some ⟨gM, 0, none⟩) M' cM, .agg #[.int .i64 n, .int .i64 g, .int .i64 a]] V fun e w' => e = .returned (.int .i64 E2) ∧ St 5 w')
      ∧ (∀ V, St 5 V → Calls Try.prog 30 #[.slice (some ⟨gi, 0, none⟩) N' N, .slice (some ⟨gf, 0, none⟩) M' N, .agg #[.int .i64 n, .int .i64 g, .int .i64 a]] V fun e w' => e = .returned (.int .i64 E2) ∧ St 6 w')
      ∧ (∀ V, St 6 V → Calls Try.prog 23 #[.slice (some ⟨gL, 0, none⟩) N' cL, .slice (some ⟨gi, 0, none⟩) N' N] V fun e w' => e = .returned (.bool true) ∧ St 7 w')
      ∧ (∀ V, St 7 V → Calls Try.prog 23 #[.slice (some ⟨gM, 0, none⟩) M' cM, .slice (some ⟨gf, 0, none⟩) M' N] V fun e w' => e = .returned (.bool true) ∧ St 8 w')
      ∧ (∀ i V, St i V → SpotAt V sp n g a ∧ Below W.heap.size W V)
      ∧ (∀ i V V', St i V → Below V.heap.size V V' → St i V') := by
  subst hc
  obtain ⟨G, hG⟩ : ∃ G, layG n g a k N' M s F = G := ⟨_, rfl⟩
  obtain ⟨H, hH⟩ : ∃ H, copG n g a N' M' F2 G = H := ⟨_, rfl⟩
  have g1 : layG n g a k N' M s (lentF N' F) = lentF N' G := by rw [layG_lent, hG]
  have g2 : copG n g a N' M' F2 (lentF N' G) = lentF N' H := by rw [copG_lent, hH]
  let fm : Nat → Nat → Int := fun i => if i = 0 then lentF N' F else if i ≤ 4 then lentF N' G else lentF N' H
  let ft : Nat → Nat → Int := fun i => if i ≤ 1 then F else if i ≤ 5 then G else H
  refine ⟨fun i V => LS ⟨n, g, a, sp, gi, gf, gL, gM, gS, cL, cM, cS, N, N', M', M, q, d, s, F2⟩ W V (fm i) (ft i), layE n g a k N' M, copE n g a N' M', h, ?_, ?_, ?_, ?_, ?_, ?_, ?_, ?_, ?_, ?_⟩
  · intro V h
    refine (LS.lay h ok k).mono ?_
    rintro e w' ⟨rfl, h2⟩
    refine ⟨rfl, ?_⟩
    show LS _ _ _ (lentF N' G) F
    rw [← g1]
    exact h2
  · intro V h
    refine (LS.rlay h ok k).mono ?_
    rintro e w' ⟨rfl, h2⟩
    refine ⟨rfl, ?_⟩
    have e : LS _ W w' (lentF N' G) (layG n g a k N' M s F) := h2
    rw [hG] at e
    exact e
  · exact fun V h => LS.keptMine h ok
  · exact fun V h => LS.keptArg h ok
  · intro V h
    refine (LS.copy h ok).mono ?_
    rintro e w' ⟨rfl, h2⟩
    refine ⟨rfl, ?_⟩
    show LS _ _ _ (lentF N' H) G
    rw [← g2]
    exact h2
  · intro V h
    refine (LS.rcopy h ok).mono ?_
    rintro e w' ⟨rfl, h2⟩
    refine ⟨rfl, ?_⟩
    have e : LS _ W w' (lentF N' H) (copG n g a N' M' F2 G) := h2
    rw [hH] at e
    exact e
  · exact fun V h => LS.keptMine h ok
  · exact fun V h => LS.keptOther h ok
  · exact fun i V h => ⟨h.spot, h.bel⟩
  · exact fun i V V' h hb => LS.below h ok hb
end
set_option maxRecDepth 100000 in
set_option maxHeartbeats 4000000 in
theorem lays_short (n g a k : Int) (q : Option Addr) (M d : Nat) (s : Nat → Int) (sa sb sc ls mo : Int) (w : World) (hs : Sl .u8 w (.slice q M d) M s) (hM : M ≤ 80) :
    Calls Try.prog 6 #[.agg #[.int .i64 n, .int .i64 g, .int .i64 a], .int .i64 k, .slice q M d, .int .i64 sa, .int .i64 sb, .int .i64 sc, .int .i64 ls, .int .i64 mo] w fun e w' => e = .returned (.bool true) ∧ Below w.heap.size w w' := by
  obtain ⟨m, hm⟩ : ∃ m, n % 2 = m := ⟨_, rfl⟩
  have hm01 : m = 0 ∨ m = 1 := by omega
  obtain ⟨N, hN⟩ : ∃ N : Nat, (N : Int) = zV m := ⟨(zV m).toNat, by rcases hm01 with rfl | rfl <;> rfl⟩
  have Nb : 38016 ≤ N ∧ N ≤ 152064 := by rcases hm01 with rfl | rfl <;> (have : (N : Int) = _ := hN; simp [zV] at this; omega)
  obtain ⟨q1, hq1⟩ : ∃ q1, ls % 101 = q1 := ⟨_, rfl⟩
  obtain ⟨q2, hq2⟩ : ∃ q2, mo % 101 = q2 := ⟨_, rfl⟩
  have b1 : 0 ≤ q1 ∧ q1 ≤ 100 := by omega
  have b2 : 0 ≤ q2 ∧ q2 ≤ 100 := by omega
  obtain ⟨N', hN'⟩ : ∃ N' : Nat, (N : Int) - q1 = (N' : Int) := ⟨((N : Int) - q1).toNat, by omega⟩
  obtain ⟨M', hM'⟩ : ∃ M' : Nat, (N : Int) - q2 = (M' : Int) := ⟨((N : Int) - q2).toNat, by omega⟩
  have bN' : 0 < N' ∧ N' ≤ N := by omega
  have bM' : 0 < M' ∧ M' ≤ N := by omega
  have hNN : (N' : Int) = zV n → N = N' := fun e => by
    have : n = m := by
      by_cases h : n = 0 ∨ n = 1
      · omega
      · unfold zV at e; rw [if_neg (by omega), if_neg (by omega)] at e; omega
    rw [this, ← hN] at e; omega
  have hq0 : 0 < M → ∀ x, q = some x → x.block < w.heap.size := fun h0 x e => by
    obtain ⟨b, o, e2, _, hI⟩ := sl_row hs h0
    rw [e] at e2; cases e2; exact hI.lt h0
  have P1 : Hid (∀ V : World, Calls Try.prog 10 #[.int .i64 ls, .int .i64 101] V fun e w' => e = .returned (.int .i64 q1) ∧ Below V.heap.size V w') := Lib.hid (fun V => (Pick_any ls 101 V (by omega) (by omega)).mono (by rintro e w' ⟨rfl, rfl⟩; rw [hq1]; exact ⟨rfl, Below.refl _ _⟩))
  have P2 : Hid (∀ V : World, Calls Try.prog 10 #[.int .i64 mo, .int .i64 101] V fun e w' => e = .returned (.int .i64 q2) ∧ Below V.heap.size V w') := Lib.hid (fun V => (Pick_any mo 101 V (by omega) (by omega)).mono (by rintro e w' ⟨rfl, rfl⟩; rw [hq2]; exact ⟨rfl, Below.refl _ _⟩))
  have HM := Lib.hid hm
  have H01 := Lib.hid hm01
  have HN := Lib.hid hN
  have HS := Lib.hid hs
  have HQ0 := Lib.hid hq0
  have HNN := Lib.hid hNN
  have HB12 := Lib.hid (And.intro bN' bM')
  have mx1 : ∀ w', (Builtin.max_ #[3, 3] 3 #[.int .i64 0, .int .i64 ((N : Int) - q1)]).run Try.prog w' = .ok (.int .i64 (N' : Int)) w' := fun w' => by rw [Lib.run_max_ints, hN', show max 0 (N' : Int) = (N' : Int) by omega]
  have mx2 : ∀ w', (Builtin.max_ #[3, 3] 3 #[.int .i64 0, .int .i64 ((N : Int) - q2)]).run Try.prog w' = .ok (.int .i64 (M' : Int)) w' := fun w' => by rw [Lib.run_max_ints, hM', show max 0 (M' : Int) = (M' : Int) by omega]
  have e1 : IntKind.i64.wrap ((N : Int) - q1) = (N : Int) - q1 := IntWalk.i64_in _ (by omega)
  have e2 : IntKind.i64.wrap ((N : Int) - q2) = (N : Int) - q2 := IntWalk.i64_in _ (by omega)
  have cM : (M : Int) ≤ 80 := by omega
  clear hm hm01 hN hq1 hq2 hN' hM' hs hq0 hNN bN' bM'
  go_enter Try.func6, Try.ntmps6
  go_wp2_with fail
  refine (Pick_any n 2 _ (by omega) (by omega)).mono ?_
  rintro e w1 ⟨rfl, rfl⟩
  rw [HM.out]
  have HP : Hid (SpotAt (w.alloc (.cells #[.int .i64 n, .int .i64 g, .int .i64 a] 29)) w.heap.size n g a) := Lib.hid (heap_alloc_new w _)
  have HB := Lib.hid ((Below.refl w.heap.size w).alloc (Nat.le_refl _) (.cells #[.int .i64 n, .int .i64 g, .int .i64 a] 29))
  have HS := Lib.hid (HS.out.below HB.out)
  go_wp2_with fail
  refine (Mo.Scene_any m sa sb N H01.out HN.out _).mono ?_
  rintro e w2 ⟨gi, F, rfl, i1, i2, hA, h2⟩
  have HP := Lib.hid (HP.out.kept (grown_of_below h2 none) (by simp))
  have HI := Lib.hid hA
  have HS := Lib.hid (HS.out.below h2)
  have HB := Lib.hid (chain HB.out h2)
  have l0 : w.heap.size < gi := by simp at i1; omega
  clear hA h2 i1
  go_wp2_with fail
  refine (Mo.Scene_any m sc sb N H01.out HN.out _).mono ?_
  rintro e w3 ⟨gf, F2, rfl, i3, i4, hA, h3⟩
  have HP := Lib.hid (HP.out.kept (grown_of_below h3 none) (by simp))
  have HI := Lib.hid (HI.out.below h3 i2)
  have HF := Lib.hid hA
  have HS := Lib.hid (HS.out.below h3)
  have HB := Lib.hid (chain HB.out h3)
  have l1 : gi < gf := by omega
  have z3 := h3.size
  clear hA h3
  have sl1 := fun w' => slice_to gi N N N' HB12.out.1.2 w'
  have sl2 := fun w' => slice_to gf N N M' HB12.out.2.2 w'
  go_wp2_with fail
  refine wp_region_past (by kernel_rfl) (by kernel_rfl) ?_
  repeat (go_big_quiet_step (first | (go_at_call_of 10 ls; exact past_call (P1.out _)) | (go_at_call_of 10 mo; exact past_call (P2.out _))))
  refine wpQuiet_nil ?_
  rintro _ ⟨⟨w4, h4⟩, rfl⟩
  have HP := Lib.hid (HP.out.kept (grown_of_below h4 none) (by simp))
  have HI := Lib.hid (HI.out.below h4 (by omega))
  have HF := Lib.hid (HF.out.below h4 i4)
  have HS := Lib.hid (HS.out.below h4)
  have HB := Lib.hid (chain HB.out h4)
  have z4 := h4.size
  clear h4 sl1 sl2 mx1 mx2 e1 e2 P1 P2
  go_wp2_with fail
  refine (LentBytes_row gi 0 N N' F _ (by have := HB12.out.1.2; omega) (fun i hi => HI.out.ints i (by have := HB12.out.1.2; omega))).mono ?_
  rintro e w5 ⟨gL, cL, rfl, l2, l3, l4, l5, hL, h5⟩
  have HP := Lib.hid (HP.out.kept (grown_of_below h5 none) (by simp))
  have HI := Lib.hid (HI.out.below h5 (by omega))
  have HF := Lib.hid (HF.out.below h5 (by omega))
  have HS := Lib.hid (HS.out.below h5)
  have HL := Lib.hid hL
  have HB := Lib.hid (chain HB.out h5)
  have z5 := h5.size
  clear hL h5
  go_wp2_with fail
  refine (LentBytes_row gf 0 N M' F2 _ (by have := HB12.out.2.2; omega) (fun i hi => HF.out.ints i (by have := HB12.out.2.2; omega))).mono ?_
  rintro e w6 ⟨gM, cM', rfl, m2, m3, m4, m5, hL, h6⟩
  have HP := Lib.hid (HP.out.kept (grown_of_below h6 none) (by simp))
  have HI := Lib.hid (HI.out.below h6 (by omega))
  have HF := Lib.hid (HF.out.below h6 (by omega))
  have HS := Lib.hid (HS.out.below h6)
  have HL := Lib.hid (HL.out.below h6 l3)
  have HO := Lib.hid hL
  have HB := Lib.hid (chain HB.out h6)
  have z6 := h6.size
  clear hL h6
  go_wp2_with fail
  refine (LentBytes_any _ M s _ (by omega) HS.out).mono ?_
  rintro e w7 ⟨gS, cS, rfl, n2, n3, n4, n5, hL, h7⟩
  obtain ⟨St, E1, E2, S0, LAY, RLAY, K1, K2, COPY, RCOPY, K3, K4, CEL, BEL⟩ := ls_pack ⟨n, g, a, w.heap.size, gi, gf, gL, gM, gS, cL, cM', cS, N, N', M', M, q, d, s, F2⟩ k F w w7
    ⟨Nat.le_refl _, l0, l1, by show gf < gL; omega, by show gL < gM; omega, by show gM < gS; omega, HB12.out.1, HB12.out.2, Nb.2, HNN.out, hM, ⟨l4, l5⟩, ⟨m4, m5⟩, ⟨n4, n5⟩, HQ0.out⟩
    ⟨HP.out.kept (grown_of_below h7 none) (by simp), HL.out.below h7 (by omega), HI.out.below h7 (by omega), HO.out.below h7 m3, HF.out.below h7 (by omega), hL, HS.out.below h7, chain HB.out h7⟩
    n g a w.heap.size gi gf gL gM gS cL cM' cS N N' M' M d q s F2 rfl
  have S0 := Lib.hid (BEL 0 _ _ S0 (Below.refl _ w7).drew)
  have LAY := Lib.hid LAY
  have RLAY := Lib.hid RLAY
  have K1 := Lib.hid K1
  have K2 := Lib.hid K2
  have COPY := Lib.hid COPY
  have RCOPY := Lib.hid RCOPY
  have K3 := Lib.hid K3
  have K4 := Lib.hid K4
  have CEL := Lib.hid CEL
  have BEL := Lib.hid BEL
  have kE1 : (E1 != E1) = false := by simp
  have kE2 : (E2 != E2) = false := by simp
  clear HP HI HF HS HL HO HB HQ0 HNN HB12 hL h7 l0 l1 l2 l3 l4 l5 m2 m3 m4 m5 n2 n3 n4 n5 z3 z4 z5 z6 i2 i3 i4 b1 b2 Nb cM H01 HN HM
  obtain ⟨s0, s1, s2⟩ := (CEL.out 0 _ S0.out).1.cells
  go_upto_region 8 with fail
  go_cut [82] (fun s82 wx => s82 = .bool false ∧ St 4 wx)
  case first =>
    go_region_with (first
      | (go_at_call 28; refine (LAY.out _ ?_).mono ?_; exact S0.out; rintro e V1 ⟨rfl, hS⟩; have S1 := Lib.hid hS; obtain ⟨s0, s1, s2⟩ := (CEL.out 1 _ hS).1.cells; clear hS)
      | (go_at_call 29; refine (RLAY.out _ ?_).mono ?_; exact S1.out; rintro e V2 ⟨rfl, hS⟩; have S2 := Lib.hid hS; clear hS)
      | (go_at_call_of 23 gL; refine (K1.out _ ?_).mono ?_; exact S2.out; rintro e V3 ⟨rfl, hS⟩; have S3 := Lib.hid hS; clear hS)
      | (go_at_call_of 23 gS; refine (K2.out _ ?_).mono ?_; exact S3.out; rintro e V4 ⟨rfl, hS⟩; have S4 := Lib.hid hS; clear hS))
    all_goals (go_wp2_with fail; go_meet; exact ⟨rfl, S4.out⟩)
  case rest =>
  obtain ⟨rfl, hS4⟩ := hcut
  have S4 := Lib.hid (BEL.out 4 _ _ hS4 (Below.refl _ wc).drew)
  clear hS4 s0 s1 s2 S0 LAY RLAY K1 K2
  obtain ⟨s0, s1, s2⟩ := (CEL.out 4 _ S4.out).1.cells
  go_upto_region 10 with fail
  go_cut [103] (fun s103 wx => s103 = .bool false ∧ St 8 wx)
  case first =>
    go_region_with (first
      | (go_at_call 12; refine (COPY.out _ ?_).mono ?_; exact S4.out; rintro e V1 ⟨rfl, hS⟩; have S5 := Lib.hid hS; obtain ⟨s0, s1, s2⟩ := (CEL.out 5 _ hS).1.cells; clear hS)
      | (go_at_call 30; refine (RCOPY.out _ ?_).mono ?_; exact S5.out; rintro e V2 ⟨rfl, hS⟩; have S6 := Lib.hid hS; clear hS)
      | (go_at_call_of 23 gL; refine (K3.out _ ?_).mono ?_; exact S6.out; rintro e V3 ⟨rfl, hS⟩; have S7 := Lib.hid hS; clear hS)
      | (go_at_call_of 23 gM; refine (K4.out _ ?_).mono ?_; exact S7.out; rintro e V4 ⟨rfl, hS⟩; have S8 := Lib.hid hS; clear hS))
    all_goals (go_wp2_with fail; go_meet; exact ⟨rfl, S8.out⟩)
  case rest =>
  obtain ⟨rfl, hS8⟩ := hcut
  have S8 := Lib.hid (BEL.out 8 _ _ hS8 (Below.refl _ wc).drew)
  clear hS8 s0 s1 s2 S4 COPY RCOPY K3 K4
  obtain ⟨s0, s1, s2⟩ := (CEL.out 8 _ S8.out).1.cells
  go_upto_region 12 with fail
  go_region_with (first
    | (go_at_call 31; refine (Grey_any n _).mono ?_; rintro e V1 ⟨v1, rfl, hR, hb⟩; have R1 := Lib.hid hR; have S9 := Lib.hid (BEL.out 8 _ _ S8.out hb); obtain ⟨s0, s1, s2⟩ := (CEL.out 8 _ S9.out).1.cells; clear hR hb)
    | (go_at_call 32; refine (rGrey_any n _).mono ?_; rintro e V2 ⟨v2, rfl, hR, hb⟩; have R2 := Lib.hid hR; have R1 := Lib.hid (R1.out.below hb); have S10 := Lib.hid (BEL.out 8 _ _ S9.out hb); clear hR hb)
    | (go_at_call 13; refine (SameBytes_true _ _ (gryN n) _ _ _ R1.out.sl R2.out.sl (fun _ _ => rfl)).mono ?_; rintro e V3 ⟨rfl, rfl⟩)
    | (go_at_call 9; refine (awake_any _).mono ?_; rintro e V4 ⟨rfl, hb⟩; have S11 := Lib.hid (BEL.out 8 _ _ S10.out hb); clear hb))
  all_goals (go_wp2_with fail; go_ret; exact ⟨rfl, (CEL.out 8 _ S11.out).2⟩)
theorem PaintLays_any (n g a k : Int) (q : Option Addr) (M d : Nat) (zs : List Int) (sa sb sc ls mo : Int) (w : World) (_ : (Lit.int .i64 k).wf = true) (w2 : IsRow .u8 w q M d zs) (_ : (Lit.int .i64 sa).wf = true) (_ : (Lit.int .i64 sb).wf = true) (_ : (Lit.int .i64 sc).wf = true) (_ : (Lit.int .i64 ls).wf = true) (_ : (Lit.int .i64 mo).wf = true) :
    Calls Try.prog 6 #[.agg #[.int .i64 n, .int .i64 g, .int .i64 a], .int .i64 k, .slice q M d, .int .i64 sa, .int .i64 sb, .int .i64 sc, .int .i64 ls, .int .i64 mo] w fun e w' => e = .returned (.bool true) ∧ Below w.heap.size w w' := by
  by_cases hM : M ≤ 80
  · exact lays_short n g a k q M d _ sa sb sc ls mo w w2.sl.1 hM
  · clear w2
    go_enter Try.func6, Try.ntmps6
    go_wp2_with (go_at_call 9; refine (awake_any _).mono ?_; rintro e w1 ⟨rfl, hw⟩)
    go_ret
    exact ⟨rfl, chain ((Below.refl w.heap.size w).alloc (Nat.le_refl _) _) hw⟩
end Pa
end Go.Proofs.Ytkeempljogjceaa
