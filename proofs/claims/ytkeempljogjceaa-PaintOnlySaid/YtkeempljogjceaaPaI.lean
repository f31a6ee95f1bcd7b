/- PaintOnly. -/
import Derived.Test.YtkeempljogjceaaPaH
import Derived.Deep.DeepCutAuto
namespace Go.Proofs.Ytkeempljogjceaa
open Go.RowKit
namespace Pa
open Fr Pt

/-- the pictures between PaintOnly's calls: the first reads f. -/
structure OC where
  (n g a : Int) (sp gi gf gw cw N : Nat) (F0 F2 : Nat → Int)
structure OC.ok (c : OC) (W : World) : Prop where
  sp : W.heap.size ≤ c.sp
  gi : c.sp < c.gi
  gf : c.sp < c.gf
  ne : c.gi ≠ c.gf
  gw : c.gi < c.gw ∧ c.gf < c.gw
  hc : cE c.n c.g c.a = 0
  N : (c.N : Int) = zV c.n
  n0 : 0 < c.N
  nm : c.N ≤ maxLen
structure OS (c : OC) (W w : World) (f : Nat → Int) : Prop where
  spot : SpotAt w c.sp c.n c.g c.a
  pic : Arr w .u8 c.gi c.N f
  frm : Arr w .u8 c.gf c.N c.F2
  was : Arr w .u8 c.gw c.N c.F0
  bel : Below W.heap.size W w
section
variable {c : OC} {W w : World} {f : Nat → Int}
theorem OS.below {w' : World} (h : OS c W w f) (ok : c.ok W) (hb : Below w.heap.size w w') : OS c W w' f where
  spot := h.spot.kept (grown_of_below hb none) (by simp)
  pic := h.pic.below hb (h.pic.lt ok.n0)
  frm := h.frm.below hb (h.frm.lt ok.n0)
  was := h.was.below hb (h.was.lt ok.n0)
  bel := chain h.bel hb
theorem OS.to {w' : World} {f' : Nat → Int} (h : OS c W w f) (ok : c.ok W) (hA : Arr w' .u8 c.gi c.N f') (hg : w.grownBy w' (some c.gi)) : OS c W w' f' := by
  have k1 := ok.sp; have k2 := ok.gi; have k3 := ok.gf; have k4 := ok.ne; have k5 := ok.gw
  exact {
    spot := h.spot.kept hg (fun e => by have := Option.some.inj e; omega)
    pic := hA
    frm := h.frm.grown hg (fun e => by have := Option.some.inj e; omega)
    was := h.was.grown hg (fun e => by have := Option.some.inj e; omega)
    bel := h.bel.grown hg h.bel.size (fun b e => by have := Option.some.inj e; omega) }
theorem OS.fetchIn (h : OS c W w f) (ok : c.ok W) (k : Nat) (hk : 1 ≤ k ∧ k ≤ 6) :
    Calls Try.prog 27 #[.slice (some ⟨c.gi, 0, none⟩) c.N c.N, .agg #[.int .i64 c.n, .int .i64 c.g, .int .i64 c.a], .int .i64 (k : Int), .int .i64 0, .int .i64 0] w fun e w' => ∃ v, e = .returned (.tuple #[v, .int .i64 0]) ∧ Res .u8 w.heap.size w' v 64 (fun i => f (adr c.n c.g c.a k i)) ∧ Below w.heap.size w w' :=
  fetch_step c.gi c.N f c.n c.g c.a k w h.pic ok.hc ok.N hk ok.n0 ok.nm
theorem OS.fetchFrom (h : OS c W w f) (ok : c.ok W) (k : Nat) (hk : 1 ≤ k ∧ k ≤ 6) :
    Calls Try.prog 27 #[.slice (some ⟨c.gf, 0, none⟩) c.N c.N, .agg #[.int .i64 c.n, .int .i64 c.g, .int .i64 c.a], .int .i64 (k : Int), .int .i64 0, .int .i64 0] w fun e w' => ∃ v, e = .returned (.tuple #[v, .int .i64 0]) ∧ Res .u8 w.heap.size w' v 64 (fun i => c.F2 (adr c.n c.g c.a k i)) ∧ Below w.heap.size w w' :=
  fetch_step c.gf c.N c.F2 c.n c.g c.a k w h.frm ok.hc ok.N hk ok.n0 ok.nm
theorem OS.lay (h : OS c W w f) (ok : c.ok W) (k : Nat) (hk : 1 ≤ k ∧ k ≤ 6) (q : Option Addr) (d : Nat) (s : Nat → Int) (hs : Sl .u8 w (.slice q 64 d) 64 s) (hq : ∀ x, q = some x → c.gi < x.block) :
    Calls Try.prog 28 #[.slice (some ⟨c.gi, 0, none⟩) c.N c.N, .agg #[.int .i64 c.n, .int .i64 c.g, .int .i64 c.a], .int .i64 (k : Int), .slice q 64 d] w fun e w' => e = .returned (.int .i64 0) ∧ OS c W w' (layB c.n c.g c.a k s f) := by
  have h0 := ok.n0
  refine (Lay_any c.gi c.N c.N c.N q 64 d f s c.n c.g c.a k w h.pic (Nat.le_refl _) (Nat.le_refl _) h0 hs (fun _ x e => by have := hq x e; omega)).mono ?_
  rintro e w' ⟨rfl, h1, h2⟩
  rw [layE_ok ok.hc ok.N rfl (by omega)]
  rw [layG_B s f ok.hc ok.N hk] at h1
  exact ⟨rfl, h.to ok h1 h2⟩
theorem OS.copy (h : OS c W w f) (ok : c.ok W) :
    Calls Try.prog 12 #[.slice (some ⟨c.gi, 0, none⟩) c.N c.N, .slice (some ⟨c.gf, 0, none⟩) c.N c.N, .agg #[.int .i64 c.n, .int .i64 c.g, .int .i64 c.a]] w fun e w' => e = .returned (.int .i64 0) ∧ OS c W w' (copF c.n c.g c.a c.F2 f 6) := by
  have k2 := ok.ne
  refine (copy_yes c.gi c.N c.N c.N c.gf 0 c.N f c.F2 c.n c.g c.a w h.pic (Nat.le_refl _) (Nat.le_refl _) h.frm.ints (Nat.le_refl _) (by omega) ok.hc ok.N).mono ?_
  rintro e w' ⟨rfl, h1, h2⟩
  exact ⟨rfl, h.to ok h1 h2⟩
end
/-- what is laid of a picture: there it is that picture, else it stays. -/
theorem only_lay {n g a : Int} {k : Nat} (F0 F2 : Nat → Int) (hc : cE n g a = 0) (hk : 1 ≤ k ∧ k ≤ 6) (p : Nat) (h : layB n g a k (fun i => F2 (adr n g a k i)) F0 p ≠ F0 p) :
    layB n g a k (fun i => F2 (adr n g a k i)) F0 p = F2 p ∧ ∃ j, j < 64 ∧ p = adr n g a k j := by
  by_cases hp : ∃ i, i < 64 ∧ p = adr n g a k i
  · obtain ⟨i, hi, rfl⟩ := hp
    exact ⟨layB_at _ _ hc hk i hi, i, hi, rfl⟩
  · exact absurd (layB_off _ _ p (fun i hi e => hp ⟨i, hi, e⟩)) h
theorem only_copy {n g a : Int} {k : Nat} (F0 F2 : Nat → Int) (hc : cE n g a = 0) (hk : 1 ≤ k ∧ k ≤ 6) (p : Nat) (h : copF n g a F2 (layB n g a k (fun i => F2 (adr n g a k i)) F0) 6 p ≠ F0 p) :
    copF n g a F2 (layB n g a k (fun i => F2 (adr n g a k i)) F0) 6 p = F2 p ∧ ∃ j, j < 384 ∧ p = adr n g a (j / 64 + 1) (j % 64) := by
  by_cases hp : ∃ m i, 1 ≤ m ∧ m ≤ 6 ∧ i < 64 ∧ p = adr n g a m i
  · obtain ⟨m, i, h1, h2, hi, rfl⟩ := hp
    refine ⟨cop_in hc ⟨h1, h2⟩ hi 6 h2 (by omega), (m - 1) * 64 + i, by omega, ?_⟩
    rw [show ((m - 1) * 64 + i) / 64 + 1 = m by omega, show ((m - 1) * 64 + i) % 64 = i by omega]
  · rw [cop_off 6 (fun m i h1 h2 hi e => hp ⟨m, i, h1, h2, hi, e⟩), layB_off _ _ p (fun i hi e => hp ⟨k, i, hk.1, hk.2, hi, e⟩)] at h
    exact absurd rfl h
theorem cnt_step_no {D : Nat → Prop} [DecidablePred D] {c k : Nat} (h : c = cnt D k) (hd : ¬ D k) : c = cnt D (k + 1) := by unfold cnt; rw [if_neg hd]; exact h
theorem cnt_step_yes {D : Nat → Prop} [DecidablePred D] {c k : Nat} (h : c = cnt D k) (hd : D k) : c + 1 = cnt D (k + 1) := by unfold cnt; rw [if_pos hd, h]
set_option maxRecDepth 100000 in
set_option maxHeartbeats 4000000 in
theorem PaintOnly_any (fo gr ad bl sa sb sc : Int) (w : World) (_ : (Lit.int .i64 fo).wf = true) (_ : (Lit.int .i64 gr).wf = true) (_ : (Lit.int .i64 ad).wf = true) (_ : (Lit.int .i64 bl).wf = true) (_ : (Lit.int .i64 sa).wf = true) (_ : (Lit.int .i64 sb).wf = true) (_ : (Lit.int .i64 sc).wf = true) :
    Calls Try.prog 5 #[.int .i64 fo, .int .i64 gr, .int .i64 ad, .int .i64 bl, .int .i64 sa, .int .i64 sb, .int .i64 sc] w fun e w' => e = .returned (.bool true) ∧ Below w.heap.size w w' := by
  have hc0 := spot_ok fo gr ad
  obtain ⟨n, hn⟩ : ∃ n, fo % 2 = n := ⟨_, rfl⟩
  obtain ⟨g, hg⟩ : ∃ g, (if fo % 2 = 0 then 1 + 2 * (gr % 3) else 1 + gr % 12) = g := ⟨_, rfl⟩
  obtain ⟨a, ha⟩ : ∃ a, 1 + ad % 33 = a := ⟨_, rfl⟩
  obtain ⟨q1, hq1⟩ : ∃ q, bl % 6 = q := ⟨_, rfl⟩
  have b1 : 0 ≤ q1 ∧ q1 ≤ 5 := by omega
  obtain ⟨k, hk⟩ : ∃ k : Nat, 1 + q1 = (k : Int) := ⟨(1 + q1).toNat, by omega⟩
  have kb : 1 ≤ k ∧ k ≤ 6 := by omega
  have ek : IntKind.i64.wrap (1 + q1) = (k : Int) := by rw [← hk]; exact IntWalk.i64_in _ (by omega)
  rw [hg, ha, hn] at hc0
  have hn01 : n = 0 ∨ n = 1 := by omega
  obtain ⟨N, hN⟩ : ∃ N : Nat, (N : Int) = zV n := ⟨(zV n).toNat, by rcases hn01 with rfl | rfl <;> rfl⟩
  have Nb : 38016 ≤ N ∧ N ≤ 152064 := by rcases hn01 with rfl | rfl <;> (have : (N : Int) = _ := hN; simp [zV] at this; omega)
  have Nm : N ≤ maxLen := Nat.le_trans Nb.2 (by decide)
  have N0 : 0 < N := by omega
  have SP : Hid (∀ V : World, Calls Try.prog 25 #[.int .i64 fo, .int .i64 gr, .int .i64 ad] V fun e w' => e = .returned (.agg #[.int .i64 n, .int .i64 g, .int .i64 a]) ∧ Below V.heap.size V w') := Lib.hid (fun V => by rw [← hn, ← hg, ← ha]; exact Mo.Spot_any fo gr ad V)
  have HQ1 := Lib.hid hq1
  have H01 := Lib.hid hn01
  have HN := Lib.hid hN
  have HC := Lib.hid hc0
  clear hk hn01 hN hc0 hn hg ha hq1
  go_enter Try.func5, Try.ntmps5
  go_wp2_with fail
  refine (awake_any _).mono ?_
  rintro e v1 ⟨rfl, h1⟩
  have HB := Lib.hid h1
  clear h1
  go_wp2_with fail
  refine (SP.out _).mono ?_
  rintro e v2 ⟨rfl, h2⟩
  have HB := Lib.hid (chain HB.out h2)
  clear h2
  go_wp2_with fail
  refine (Pick_any bl 6 _ (by omega) (by omega)).mono ?_
  rintro e v3 ⟨rfl, rfl⟩
  rw [HQ1.out]
  have zb := HB.out.size
  have HP : Hid (SpotAt (v2.alloc (.cells #[.int .i64 n, .int .i64 g, .int .i64 a] 29)).drew v2.heap.size n g a) := Lib.hid (SpotAt.kept (heap_alloc_new v2 _) (grown_of_below ((Below.refl _ _).drew) none) (by simp))
  have HB := Lib.hid (chain (HB.out.alloc zb (.cells #[.int .i64 n, .int .i64 g, .int .i64 a] 29)) (Below.refl _ _).drew)
  obtain ⟨s0, s1, s2⟩ := HP.out.cells
  go_upto_region 4 with fail
  go_cut [17, 18] (fun u v wx => ∃ (gi gf : Nat) (f0 F2 : Nat → Int), u = .slice (some ⟨gi, 0, none⟩) N N ∧ v = .slice (some ⟨gf, 0, none⟩) N N ∧ v2.heap.size < gi ∧ v2.heap.size < gf ∧ gi ≠ gf ∧ Arr wx .u8 gi N f0 ∧ Arr wx .u8 gf N F2 ∧ SpotAt wx v2.heap.size n g a ∧ Below w.heap.size w wx)
  case first =>
    go_region_with (first
      | (go_at_call_of 11 sa; refine (Mo.Scene_any n sa sb N H01.out HN.out _).mono ?_; rintro e V1 ⟨gi, f0, rfl, i1, i2, hA, h4⟩; have m1 := Nat.lt_of_lt_of_le HP.out.lt i1; (try have ne : gi ≠ gf := by omega); (try have HF := Lib.hid (HF.out.below h4 i4)); have HI := Lib.hid hA; have HP := Lib.hid (HP.out.kept (grown_of_below h4 none) (by simp)); have HB := Lib.hid (chain HB.out h4); obtain ⟨s0, s1, s2⟩ := HP.out.cells; clear hA h4)
      | (go_at_call_of 11 sc; refine (Mo.Scene_any n sc sb N H01.out HN.out _).mono ?_; rintro e V2 ⟨gf, F2, rfl, i3, i4, hA, h5⟩; have m2 := Nat.lt_of_lt_of_le HP.out.lt i3; (try have ne : gi ≠ gf := by omega); (try have HI := Lib.hid (HI.out.below h5 i2)); have HF := Lib.hid hA; have HP := Lib.hid (HP.out.kept (grown_of_below h5 none) (by simp)); have HB := Lib.hid (chain HB.out h5); obtain ⟨s0, s1, s2⟩ := HP.out.cells; clear hA h5))
    all_goals (go_wp2_with fail; go_meet; exact ⟨_, _, _, _, rfl, rfl, m1, m2, ne, HI.out, HF.out, HP.out, HB.out⟩)
  case rest =>
  obtain ⟨gi, gf, f0, F2, rfl, rfl, m1, m2, ne, hI, hF, hP, hB⟩ := hcut
  have z1 := hI.lt N0
  have z2 := hF.lt N0
  have HI := Lib.hid hI
  have HF := Lib.hid hF
  have HP := Lib.hid hP
  have HB := Lib.hid hB
  clear hI hF hP hB s0 s1 s2
  have HSI := Lib.hid (part_sl2 HI.out N0 Nm)
  go_wp2_with fail
  refine (CopyBytes_any _ N f0 _ (by omega) HSI.out).mono ?_
  rintro e v5 ⟨gw, cw, rfl, n2, n3, n4, n5, hL, h5⟩
  have ok : OC.ok ⟨n, g, a, v2.heap.size, gi, gf, gw, cw, N, f0, F2⟩ w := ⟨by have := zb; omega, m1, m2, ne, ⟨by show gi < gw; omega, by show gf < gw; omega⟩, HC.out, HN.out, N0, Nm⟩
  have S0 : Hid (OS ⟨n, g, a, v2.heap.size, gi, gf, gw, cw, N, f0, F2⟩ w v5 f0) := Lib.hid ⟨HP.out.kept (grown_of_below h5 none) (by simp), HI.out.below h5 z1, HF.out.below h5 z2, hL, chain HB.out h5⟩
  have OK := Lib.hid ok
  have hgw : gi < v5.heap.size := S0.out.pic.lt N0
  clear HP HI HF HB HSI hL h5 ok
  obtain ⟨s0, s1, s2⟩ := S0.out.spot.cells
  go_wp2_with fail
  refine (S0.out.fetchFrom OK.out k kb).mono ?_
  rintro e v6 ⟨v, rfl, hR, h6⟩
  rcases hR with ⟨h, _⟩ | ⟨gl, cl, rfl, k1, k2, k3, k4, hA⟩
  · omega
  have S1 := Lib.hid (S0.out.below OK.out h6)
  have HL := Lib.hid (arr_sl hA (by omega) k3 k4)
  have hq : ∀ x, some (⟨gl, 0, none⟩ : Addr) = some x → gi < x.block := fun x e => by cases e; show gi < gl; omega
  clear hA h6 S0
  obtain ⟨s0, s1, s2⟩ := S1.out.spot.cells
  go_wp2_with fail
  refine (S1.out.lay OK.out k kb _ _ _ HL.out hq).mono ?_
  rintro e v7 ⟨rfl, hS⟩
  have S2 := Lib.hid hS
  have HD := Lib.hid (fun p (h : layB n g a k (fun i => F2 (adr n g a k i)) f0 p ≠ f0 p) => only_lay f0 F2 HC.out kb p h)
  have HD2 := Lib.hid (fun p (h : copF n g a F2 (layB n g a k (fun i => F2 (adr n g a k i)) f0) 6 p ≠ f0 p) => only_copy f0 F2 HC.out kb p h)
  clear hS S1 HL hq
  obtain ⟨G1, hG1⟩ : ∃ G1, layB n g a k (fun i => F2 (adr n g a k i)) f0 = G1 := ⟨_, rfl⟩
  have S2 : Hid (OS ⟨n, g, a, v2.heap.size, gi, gf, gw, cw, N, f0, F2⟩ w v7 G1) := Lib.hid (by rw [← hG1]; exact S2.out)
  have HD : Hid (∀ p, G1 p ≠ f0 p → G1 p = F2 p ∧ ∃ j, j < 64 ∧ p = adr n g a k j) := Lib.hid (by rw [← hG1]; exact HD.out)
  have HD2 : Hid (∀ p, copF n g a F2 G1 6 p ≠ f0 p → copF n g a F2 G1 6 p = F2 p ∧ ∃ j, j < 384 ∧ p = adr n g a (j / 64 + 1) (j % 64)) := Lib.hid (by rw [← hG1]; exact HD2.out)
  obtain ⟨G2, hG2⟩ : ∃ G2, copF n g a F2 G1 6 = G2 := ⟨_, rfl⟩
  have HD2 : Hid (∀ p, G2 p ≠ f0 p → G2 p = F2 p ∧ ∃ j, j < 384 ∧ p = adr n g a (j / 64 + 1) (j % 64)) := Lib.hid (by rw [← hG2]; exact HD2.out)
  have HG2 : Hid (∀ m, 1 ≤ m ∧ m ≤ 6 → ∀ i, i < 64 → G2 (adr n g a m i) = F2 (adr n g a m i)) := Lib.hid (fun m hm i hi => by rw [← hG2]; exact cop_in HC.out hm hi 6 hm.2 (by omega))
  have HG := Lib.hid hG2
  clear hG1 hG2 s0 s1 s2
  go_wp2_with fail
  go_loopw [22, 23] (fun x y wr => ∃ j c : Nat, j ≤ N ∧ c ≤ j ∧ Hid (c = cnt (fun p => G1 p ≠ f0 p) j) ∧ x = .int .i64 c ∧ y = .int .i64 j ∧ ∃ m, wr = v7.drewN m) (fun _ y _ => N - (intOf y).toNat)
  case atStart => exact ⟨0, 0, Nat.zero_le _, Nat.le_refl _, Lib.hid rfl, rfl, rfl, 0, rfl⟩
  case round =>
    obtain ⟨j, c, hj, hcj, HE, rfl, rfl, m, rfl⟩ := hrel
    by_cases hjN : j < N
    · have dj : decide ((j : Int) < (N : Int)) = true := decide_eq_true (by omega)
      have jb : (0 : Int) ≤ (j : Int) ∧ (j : Int) < N := by omega
      have cI := (S2.out.pic j hjN).1
      have cW := (S2.out.was j hjN).1
      have cF := (S2.out.frm j hjN).1
      by_cases he : G1 j = f0 j
      · have HE := Lib.hid (cnt_step_no HE.out (fun h => h he))
        rw [he] at cI
        obtain ⟨A, hA⟩ : ∃ A, A = f0 j := ⟨_, rfl⟩
        dsimp only at cI cW cF
        rw [← hA] at cI cW
        have t1 : (A != A) = false := by simp
        clear cF he hA
        go_wp2_with fail
        go_quiet (fail)
        go_wp2_with fail
        go_roundw
        case rel => exact ⟨j + 1, c, by omega, by omega, HE, rfl, by go_num, _, rfl⟩
        case measure => simp [intOf]; omega
      · have h2 : G1 j = F2 j := (HD.out j he).1
        have HE := Lib.hid (cnt_step_yes HE.out he)
        have hne : F2 j ≠ f0 j := fun e => he (h2.trans e)
        rw [h2] at cI
        dsimp only at cI cW cF
        obtain ⟨A, hA⟩ : ∃ A, A = F2 j := ⟨_, rfl⟩
        obtain ⟨B, hB⟩ : ∃ B, B = f0 j := ⟨_, rfl⟩
        rw [← hA] at cI cF hne
        rw [← hB] at cW hne
        have t1 : (A != A) = false := by simp
        have t2 : (A != B) = true := by simpa using hne
        clear he hA hB hne h2
        go_wp2_with fail
        go_quiet (fail)
        go_wp2_with fail
        go_quiet (fail)
        go_wp2_with fail
        go_roundw
        case rel => exact ⟨j + 1, c + 1, by omega, by omega, HE, by go_num, by go_num, _, rfl⟩
        case measure => simp [intOf]; omega
    · have dj : decide ((j : Int) < (N : Int)) = false := decide_eq_false (by omega)
      obtain rfl : N = j := by omega
      have c64 : c ≤ 64 := by rw [HE.out]; exact cnt_le (adr n g a k) _ 64 _ (fun i hi => (HD.out i hi).2)
      have d64 : decide ((64 : Int) < (c : Int)) = false := decide_eq_false (by omega)
      have S3 := Lib.hid (S2.out.below OK.out (below_drewN (Below.refl _ _) m))
      clear HE HD S2
      obtain ⟨s0, s1, s2⟩ := S3.out.spot.cells
      go_wp2_with fail
      refine (S3.out.copy OK.out).mono ?_
      rintro e v8 ⟨rfl, hS⟩
      have S4 : Hid (OS ⟨n, g, a, v2.heap.size, gi, gf, gw, cw, N, f0, F2⟩ w v8 G2) := Lib.hid (by rw [← HG.out]; exact hS)
      clear hS S3 s0 s1 s2 HG dj d64 c64 hj hcj
      go_wp2_with fail
      go_loopw [22, 24] (fun x y wr => ∃ j c : Nat, j ≤ N ∧ c ≤ j ∧ Hid (c = cnt (fun p => G2 p ≠ f0 p) j) ∧ x = .int .i64 c ∧ y = .int .i64 j ∧ ∃ m, wr = v8.drewN m) (fun _ y _ => N - (intOf y).toNat)
      case atStart => exact ⟨0, 0, Nat.zero_le _, Nat.le_refl _, Lib.hid rfl, rfl, rfl, 0, rfl⟩
      case round =>
        obtain ⟨j, c, hj, hcj, HE, rfl, rfl, m, rfl⟩ := hrel
        by_cases hjN : j < N
        · have dj : decide ((j : Int) < (N : Int)) = true := decide_eq_true (by omega)
          have jb : (0 : Int) ≤ (j : Int) ∧ (j : Int) < N := by omega
          have cI := (S4.out.pic j hjN).1
          have cW := (S4.out.was j hjN).1
          have cF := (S4.out.frm j hjN).1
          by_cases he : G2 j = f0 j
          · have HE := Lib.hid (cnt_step_no HE.out (fun h => h he))
            rw [he] at cI
            obtain ⟨A, hA⟩ : ∃ A, A = f0 j := ⟨_, rfl⟩
            dsimp only at cI cW cF
            rw [← hA] at cI cW
            have t1 : (A != A) = false := by simp
            clear cF he hA
            go_wp2_with fail
            go_quiet (fail)
            go_wp2_with fail
            go_roundw
            case rel => exact ⟨j + 1, c, by omega, by omega, HE, rfl, by go_num, _, rfl⟩
            case measure => simp [intOf]; omega
          · have h2 : G2 j = F2 j := (HD2.out j he).1
            have HE := Lib.hid (cnt_step_yes HE.out he)
            have hne : F2 j ≠ f0 j := fun e => he (h2.trans e)
            rw [h2] at cI
            dsimp only at cI cW cF
            obtain ⟨A, hA⟩ : ∃ A, A = F2 j := ⟨_, rfl⟩
            obtain ⟨B, hB⟩ : ∃ B, B = f0 j := ⟨_, rfl⟩
            rw [← hA] at cI cF hne
            rw [← hB] at cW hne
            have t1 : (A != A) = false := by simp
            have t2 : (A != B) = true := by simpa using hne
            clear he hA hB hne h2
            go_wp2_with fail
            go_quiet (fail)
            go_wp2_with fail
            go_quiet (fail)
            go_wp2_with fail
            go_roundw
            case rel => exact ⟨j + 1, c + 1, by omega, by omega, HE, by go_num, by go_num, _, rfl⟩
            case measure => simp [intOf]; omega
        · have dj : decide ((j : Int) < (N : Int)) = false := decide_eq_false (by omega)
          obtain rfl : N = j := by omega
          have c384 : c ≤ 384 := by rw [HE.out]; exact cnt_le (fun j => adr n g a (j / 64 + 1) (j % 64)) _ 384 _ (fun i hi => (HD2.out i hi).2)
          have d384 : decide ((c : Int) ≤ (384 : Int)) = true := decide_eq_true (by omega)
          have S5 := Lib.hid (S4.out.below OK.out (below_drewN (Below.refl _ _) m))
          clear HE HD2 S4
          go_wp2_with fail
          go_loopw [25] (fun x wr => ∃ q : Nat, 1 ≤ q ∧ q ≤ 7 ∧ x = .int .i64 q ∧ Hid (OS ⟨n, g, a, v2.heap.size, gi, gf, gw, cw, N, f0, F2⟩ w wr G2)) (fun x _ => 7 - (intOf x).toNat)
          case atStart => exact ⟨1, by omega, by omega, rfl, S5⟩
          case round =>
            obtain ⟨q, p1, p7, rfl, HS⟩ := hrel
            by_cases h6 : q ≤ 6
            · have d6 : decide ((q : Int) ≤ (6 : Int)) = true := decide_eq_true (by omega)
              obtain ⟨s0, s1, s2⟩ := SpotAt.cells (B := v2.heap.size) (n := n) (g := g) (a := a) HS.out.spot
              go_wp2_with fail
              refine (HS.out.fetchIn OK.out q ⟨p1, h6⟩).mono ?_
              rintro e u1 ⟨x1, rfl, hR, hb⟩
              have R1 := Lib.hid hR
              have T1 := Lib.hid (HS.out.below OK.out hb)
              clear hR hb HS
              obtain ⟨s0, s1, s2⟩ := SpotAt.cells (B := v2.heap.size) (n := n) (g := g) (a := a) T1.out.spot
              go_wp2_with fail
              refine (T1.out.fetchFrom OK.out q ⟨p1, h6⟩).mono ?_
              rintro e u2 ⟨x2, rfl, hR, hb⟩
              have R2 := Lib.hid hR
              have R1 := Lib.hid (R1.out.below hb)
              have T2 := Lib.hid (T1.out.below OK.out hb)
              clear hR hb T1 s0 s1 s2
              go_wp2_with fail
              refine (SameBytes_true _ _ 64 _ _ _ R1.out.sl R2.out.sl (fun i hi => HG2.out q ⟨p1, h6⟩ i hi)).mono ?_
              rintro e u3 ⟨rfl, rfl⟩
              go_wp2_with fail
              go_roundw
              case rel => exact ⟨q + 1, by omega, by omega, by go_num, T2⟩
              case measure => simp [intOf]; omega
            · have d6 : decide ((q : Int) ≤ (6 : Int)) = false := decide_eq_false (by omega)
              go_wp2_with fail
              go_ret
              exact ⟨rfl, HS.out.bel⟩
end Pa
end Go.Proofs.Ytkeempljogjceaa
