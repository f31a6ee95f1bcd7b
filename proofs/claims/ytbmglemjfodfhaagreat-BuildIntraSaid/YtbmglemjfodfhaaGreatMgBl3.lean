/- BuildStill. -/
import Derived.Test.YtbmglemjfodfhaaGreatMgBl2
import Derived.Test.YtbmglemjfodfhaaGreatMgScb
import Derived.Deep.RegionWith
set_option linter.unusedVariables false
set_option linter.unusedSimpArgs false

namespace Go.Proofs.YtbmglemjfodfhaaGreat
open Go.RowKit
namespace Bl
open Bk Fr Pt Kd Bu

theorem spot_ok (f g a : Int) : cE (f % 2) (if f % 2 = 0 then 1 + 2 * (g % 3) else 1 + g % 12) (1 + a % 33) = 0 := by
  have m3 := Int.emod_nonneg g (show (12 : Int) ≠ 0 by omega)
  have m4 := Int.emod_lt_of_pos g (show (0 : Int) < 12 by omega)
  have m5 := Int.emod_nonneg a (show (33 : Int) ≠ 0 by omega)
  have m6 := Int.emod_lt_of_pos a (show (0 : Int) < 33 by omega)
  have m7 := Int.emod_nonneg g (show (3 : Int) ≠ 0 by omega)
  have m8 := Int.emod_lt_of_pos g (show (0 : Int) < 3 by omega)
  by_cases h0 : f % 2 = 0
  · rw [if_pos h0, h0]
    exact Pa.in_group 0 _ _ (.inl rfl) (by omega) (by omega) (by omega)
  · rw [if_neg h0, show f % 2 = 1 by omega]
    exact Pa.in_group 1 _ _ (.inr rfl) (by omega) (by omega) (by omega)
/-- a macroblock without blocks, by 0, 0. -/
def M0 (a : Int) : MB := ⟨a, 5, 0, 0, 0, 0, 0, fun _ => 0, fun _ => none, fun _ => 0, fun _ => 0, fun _ _ => 0, fun _ _ => 0⟩
theorem M0_at (a : Int) (w : World) : (M0 a).at w (.slice none 0 0) := ⟨none, 0, rfl, Nat.le_refl _, Nat.zero_le _, .inl rfl⟩
theorem M0_e (a : Int) (h : 1 ≤ a ∧ a ≤ 33) : (M0 a).e = 0 := by
  have h1 : (M0 a).bad1 = false := by
    unfold MB.bad1
    rw [show decide ((M0 a).ad < 1) = false from decide_eq_false (show ¬ a < 1 by omega), show decide (33 < (M0 a).ad) = false from decide_eq_false (show ¬ 33 < a by omega)]
    rfl
  have h2 : (M0 a).bad2 = false := rfl
  unfold MB.e
  rw [if_neg (by rw [h1]; decide), if_neg (by rw [h2]; decide), if_pos (show (M0 a).okBs from fun j hj => by exact absurd hj (Nat.not_lt_zero j))]
theorem a_bd {n g a : Int} (h : cE n g a = 0) : 1 ≤ a ∧ a ≤ 33 := by have := cE_cases n g a h; omega
theorem mac0 {n g a : Int} {N NF : Nat} {q : Int} (hc : cE n g a = 0) (hN : (N : Int) = zV n) (hF : NF = 0 ∨ NF = N) (hq : 1 ≤ q ∧ q ≤ 31) : macE (M0 a) n g a N NF q = 0 := by
  unfold macE smE
  rw [if_neg (by omega), if_neg (by omega), if_neg (by omega), if_neg, if_neg (by omega), if_neg]
  · rintro ⟨_, h⟩; exact h (v00 hc)
  · rintro (h | h | h)
    · rcases hF with rfl | rfl <;> omega
    · exact h (M0_e a (a_bd hc))
    · exact h rfl
theorem lay0 {n g a q : Int} (F f : Nat → Int) (hc : cE n g a = 0) : ∀ k, k ≤ 6 → layS n g a (smp (M0 a) n g a F q) f k = Pa.copF n g a F f k
  | 0, _ => rfl
  | k + 1, hk => by
    have ih := lay0 (q := q) F f hc k (by omega)
    show Pa.layN _ _ (smp (M0 a) n g a F q k) (layS n g a (smp (M0 a) n g a F q) f k) 64 = Pa.layN _ _ _ (Pa.copF n g a F f k) 64
    rw [ih]
    refine layN_congr _ _ _ _ _ 64 (fun j hj => ?_)
    have h1 : hasP (M0 a).pt ((k : Int) + 1) = false := by unfold hasP; rfl
    unfold smp
    rw [if_neg (by rw [h1]; decide)]
    unfold pP
    rw [if_neg (show ¬ pI (M0 a).kd = true from (by decide : ¬ pI 5 = true)), if_neg (show ¬ pF (M0 a).kd = true from (by decide : ¬ pF 5 = true))]
    exact Pa.fet_adr F n g a (k + 1) j hc (by omega)
/-- the worlds of BuildStill: three pictures, one ahead, one whole. -/
structure SC where
  (n g a : Int) (spB mB gx gy gz cx cy cz N : Nat) (fq : Option Addr) (NF fc : Nat) (F : Nat → Int) (wq : Option Addr) (wc : Nat) (FW : Nat → Int)
structure SC.ok (c : SC) (W : World) : Prop where
  b : W.heap.size ≤ c.spB ∧ W.heap.size ≤ c.mB ∧ W.heap.size ≤ c.gx ∧ W.heap.size ≤ c.gy ∧ W.heap.size ≤ c.gz
  d : c.gx ≠ c.gy ∧ c.gx ≠ c.gz ∧ c.gy ≠ c.gz
  ds : c.spB ≠ c.gx ∧ c.spB ≠ c.gy ∧ c.spB ≠ c.gz
  dm : c.mB ≠ c.gx ∧ c.mB ≠ c.gy ∧ c.mB ≠ c.gz
  cap : c.N ≤ c.cx ∧ c.N ≤ c.cy ∧ c.N ≤ c.cz ∧ c.cx ≤ maxLen ∧ c.cy ≤ maxLen ∧ c.cz ≤ maxLen
  fq : 0 < c.NF → ∀ x, c.fq = some x → x.block ≠ c.gx ∧ x.block ≠ c.gy ∧ x.block ≠ c.gz
  wq : ∀ x, c.wq = some x → x.block ≠ c.gx ∧ x.block ≠ c.gy ∧ x.block ≠ c.gz
  hc : cE c.n c.g c.a = 0
  N : (c.N : Int) = zV c.n
  NF : c.NF = 0 ∨ c.NF = c.N
  n0 : 0 < c.N
  bd : ∀ i, 0 ≤ c.F i ∧ c.F i ≤ 255
  FW : c.FW = aF c.NF c.F
structure SK (c : SC) (W w : World) (fx fy fz : Nat → Int) : Prop where
  spot : At w c.spB #[.int .i64 c.n, .int .i64 c.g, .int .i64 c.a] 28
  mac : At w c.mB #[.int .i64 c.a, .int .i64 5, .int .i64 0, .int .i64 0, .int .i64 0, .int .i64 0, .slice none 0 0] 24
  x : Arr w .u8 c.gx c.N fx
  y : Arr w .u8 c.gy c.N fy
  z : Arr w .u8 c.gz c.N fz
  frm : Sl .u8 w (.slice c.fq c.NF c.fc) c.NF c.F
  whl : Sl .u8 w (.slice c.wq c.N c.wc) c.N c.FW
  bel : Below W.heap.size W w
section
variable {c : SC} {W w : World} {fx fy fz : Nat → Int}
theorem SK.drew (h : SK c W w fx fy fz) : SK c W w.drew fx fy fz :=
  have hb := (Below.refl w.heap.size w).drew
  ⟨h.spot.below hb, h.mac.below hb, h.x, h.y, h.z, h.frm.below hb, h.whl.below hb, h.bel.drew⟩
theorem SK.mono {w' : World} {fx' fy' fz' : Nat → Int} (h : SK c W w fx fy fz) (ok : c.ok W) (b : Nat) (hb : b = c.gx ∨ b = c.gy ∨ b = c.gz) (hg : w.grownBy w' (some b)) (h1 : Arr w' .u8 c.gx c.N fx') (h2 : Arr w' .u8 c.gy c.N fy') (h3 : Arr w' .u8 c.gz c.N fz') : SK c W w' fx' fy' fz' := by
  obtain ⟨d1, d2, d3⟩ := ok.ds
  obtain ⟨e1, e2, e3⟩ := ok.dm
  obtain ⟨b1, b2, b3, b4, b5⟩ := ok.b
  refine ⟨h.spot.kept hg (fun e => by have := Option.some.inj e; rcases hb with rfl | rfl | rfl <;> omega), h.mac.kept hg (fun e => by have := Option.some.inj e; rcases hb with rfl | rfl | rfl <;> omega), h1, h2, h3, ?_, ?_, h.bel.grown hg h.bel.size (fun q e => by have := Option.some.inj e; rcases hb with rfl | rfl | rfl <;> omega)⟩
  · exact Sl.grown' h.frm hg (fun h0 x e e2 => by
      have := ok.fq h0 x e
      have := Option.some.inj e2
      rcases hb with rfl | rfl | rfl <;> omega)
  · exact Sl.grown' h.whl hg (fun h0 x e e2 => by
      have := ok.wq x e
      have := Option.some.inj e2
      rcases hb with rfl | rfl | rfl <;> omega)
theorem SK.toX (h : SK c W w fx fy fz) (ok : c.ok W) (q : Int) (hq : 1 ≤ q ∧ q ≤ 31) :
    Calls Tryz.prog 16 #[.slice (some ⟨c.gx, 0, none⟩) c.N c.cx, .slice c.fq c.NF c.fc, sp c.n c.g c.a, .agg #[.int .i64 c.a, .int .i64 5, .int .i64 0, .int .i64 0, .int .i64 0, .int .i64 0, .slice none 0 0], .int .i64 q] w fun e w' => e = .returned (.int .i64 0) ∧ SK c W w' (Pa.copF c.n c.g c.a (aF c.NF c.F) fx 6) fy fz := by
  obtain ⟨d1, d2, d3⟩ := ok.d
  have := Macro_any (M0 c.a) (.slice none 0 0) c.gx c.N c.N c.cx c.fq c.NF c.fc fx c.F c.n c.g c.a q w h.x (Nat.le_refl _) ok.cap.1 ok.n0 h.frm ok.bd (M0_at _ _)
  have e0 := mac0 (a := c.a) ok.hc ok.N ok.NF hq
  unfold macF at this
  rw [e0, if_pos rfl, lay0 _ _ ok.hc 6 (Nat.le_refl _)] at this
  refine this.mono ?_
  rintro e w' ⟨h1, h2, h3⟩
  exact ⟨h1, h.mono ok c.gx (.inl rfl) h3 h2 (h.y.grown h3 (fun e => by have := Option.some.inj e; omega)) (h.z.grown h3 (fun e => by have := Option.some.inj e; omega))⟩
theorem SC.ok.an {c : SC} {W : World} (ok : c.ok W) : aN c.NF c.n = c.N ∧ ((aN c.NF c.n : Nat) : Int) = zV c.n := by
  have h := ok.N
  have h0 := ok.n0
  have : aN c.NF c.n = c.N := by
    rcases ok.NF with e | e
    · unfold Bu.aN; rw [if_pos e]
      have : ((Pa.gryN c.n : Nat) : Int) = zV c.n := (Pa.gry_in (cE_n ok.hc)).1
      omega
    · unfold Bu.aN; rw [if_neg (by omega)]; exact e
  exact ⟨this, by rw [this]; exact h⟩
theorem SK.toY (h : SK c W w fx fy fz) (ok : c.ok W) :
    Calls Tryz.prog 26 #[.slice (some ⟨c.gy, 0, none⟩) c.N c.cy, .slice c.fq c.NF c.fc, sp c.n c.g c.a] w fun e w' => e = .returned (.int .i64 0) ∧ SK c W w' fx (Pa.copF c.n c.g c.a (aF c.NF c.F) fy 6) fz := by
  obtain ⟨d1, d2, d3⟩ := ok.d
  have := Skip_any c.gy c.N c.N c.cy c.fq c.NF c.fc fy c.F c.n c.g c.a w h.y (Nat.le_refl _) ok.cap.2.1 ok.n0 h.frm (fun h0 x e => (ok.fq h0 x e).2.1)
  have e0 := Pa.copE_ok ok.hc ok.N ok.an.2
  unfold Pa.copG at this
  rw [e0, if_pos rfl] at this
  refine this.mono ?_
  rintro e w' ⟨h1, h2, h3⟩
  exact ⟨h1, h.mono ok c.gy (.inr (.inl rfl)) h3 (h.x.grown h3 (fun e => by have := Option.some.inj e; omega)) h2 (h.z.grown h3 (fun e => by have := Option.some.inj e; omega))⟩
theorem SK.toZ (h : SK c W w fx fy fz) (ok : c.ok W) :
    Calls Tryz.prog 32 #[.slice (some ⟨c.gz, 0, none⟩) c.N c.cz, .slice c.wq c.N c.wc, sp c.n c.g c.a] w fun e w' => e = .returned (.int .i64 0) ∧ SK c W w' fx fy (Pa.copF c.n c.g c.a (aF c.NF c.F) fz 6) := by
  obtain ⟨d1, d2, d3⟩ := ok.d
  have := Pa.Copy_any c.gz c.N c.N c.cz c.wq c.N c.wc fz c.FW c.n c.g c.a w h.z (Nat.le_refl _) ok.cap.2.2.1 ok.n0 h.whl (fun _ x e => (ok.wq x e).2.2)
  have e0 := Pa.copE_ok ok.hc ok.N ok.N
  unfold Pa.copG at this
  rw [e0, if_pos rfl, ok.FW] at this
  refine this.mono ?_
  rintro e w' ⟨h1, h2, h3⟩
  exact ⟨h1, h.mono ok c.gz (.inr (.inr rfl)) h3 (h.x.grown h3 (fun e => by have := Option.some.inj e; omega)) (h.y.grown h3 (fun e => by have := Option.some.inj e; omega)) h2⟩
end
set_option maxRecDepth 100000 in
set_option maxHeartbeats 4000000 in
theorem BuildStill_any (fo gr ad qu sa sb : Int) (no : Bool) (w : World) (_ : (Lit.int .i64 fo).wf = true) (_ : (Lit.int .i64 gr).wf = true) (_ : (Lit.int .i64 ad).wf = true) (_ : (Lit.int .i64 qu).wf = true) (_ : (Lit.int .i64 sa).wf = true) (_ : (Lit.int .i64 sb).wf = true) :
    Calls Tryz.prog 5 #[.int .i64 fo, .int .i64 gr, .int .i64 ad, .int .i64 qu, .int .i64 sa, .int .i64 sb, .bool no] w fun e w' => e = .returned (.bool true) ∧ Below w.heap.size w w' := by
  have hc0 := spot_ok fo gr ad
  obtain ⟨n, hn⟩ : ∃ n, fo % 2 = n := ⟨_, rfl⟩
  obtain ⟨g, hg⟩ : ∃ g, (if fo % 2 = 0 then 1 + 2 * (gr % 3) else 1 + gr % 12) = g := ⟨_, rfl⟩
  obtain ⟨a, ha⟩ : ∃ a, 1 + ad % 33 = a := ⟨_, rfl⟩
  obtain ⟨q1, hq1⟩ : ∃ q, qu % 31 = q := ⟨_, rfl⟩
  have b1 : 0 ≤ q1 ∧ q1 ≤ 30 := by omega
  have eq1 : IntKind.i64.wrap (1 + q1) = 1 + q1 := IntWalk.i64_in _ (by omega)
  rw [hg, ha, hn] at hc0
  have hn01 : n = 0 ∨ n = 1 := by omega
  obtain ⟨N, hN⟩ : ∃ N : Nat, (N : Int) = zV n := ⟨(zV n).toNat, by rcases hn01 with rfl | rfl <;> rfl⟩
  have Nb : 38016 ≤ N ∧ N ≤ 152064 := by rcases hn01 with rfl | rfl <;> (have : (N : Int) = _ := hN; simp [zV] at this; omega)
  have Nm : N ≤ maxLen := Nat.le_trans Nb.2 (by decide)
  have N0 : 0 < N := by omega
  have SP : Hid (∀ V : World, Calls Tryz.prog 29 #[.int .i64 fo, .int .i64 gr, .int .i64 ad] V fun e w' => e = .returned (.agg #[.int .i64 n, .int .i64 g, .int .i64 a]) ∧ Below V.heap.size V w') := Lib.hid (fun V => by rw [← hn, ← hg, ← ha]; exact Mo.Spot_any fo gr ad V)
  have HQ1 := Lib.hid hq1
  have H01 := Lib.hid hn01
  have HN := Lib.hid hN
  have HC := Lib.hid hc0
  have HGN : Hid (Pa.gryN n = N) := Lib.hid (by have := (Pa.gry_in hn01).1; omega)
  clear hn01 hN hc0 hn hg ha hq1
  go_enter Tryz.func5, Tryz.ntmps5
  go_wp2_with fail
  refine (awake_any _).mono ?_
  rintro e v1 ⟨rfl, h1⟩
  have HB := Lib.hid h1
  clear h1
  go_wp2_with fail
  refine (SP.out _).mono ?_
  rintro e v2 ⟨rfl, h2⟩
  have HB := Lib.hid (chain HB.out h2)
  clear h2
  have zb := HB.out.size
  have HP : Hid (At (v2.alloc (.cells #[.int .i64 n, .int .i64 g, .int .i64 a] 28)).drew v2.heap.size #[.int .i64 n, .int .i64 g, .int .i64 a] 28) := Lib.hid ((At.new v2 _ _).below (Below.refl _ _).drew)
  have HB := Lib.hid (chain (HB.out.alloc zb (.cells #[.int .i64 n, .int .i64 g, .int .i64 a] 28)) (Below.refl _ _).drew)
  have s0 := HP.out.cell 0 _ rfl
  go_upto_region 3 with fail
  go_cut [17, 18] (fun u v wx => ∃ (gi gf : Nat) (f0 F2 : Nat → Int), u = .slice (some ⟨gi, 0, none⟩) N N ∧ v = .slice (some ⟨gf, 0, none⟩) N N ∧ v2.heap.size < gi ∧ v2.heap.size < gf ∧ gi ≠ gf ∧ Arr wx .u8 gi N f0 ∧ Arr wx .u8 gf N F2 ∧ (∀ i, 0 ≤ F2 i ∧ F2 i ≤ 255) ∧ At wx v2.heap.size #[.int .i64 n, .int .i64 g, .int .i64 a] 28 ∧ Below w.heap.size w wx)
  case first =>
    go_region_with (first
      | (go_at_call_of 13 sa; refine (Mo.SceneB_any n sa 1 N H01.out HN.out _).mono ?_; rintro e V1 ⟨gi, f0, rfl, i1, i2, hA, _, h4⟩; have m1 := Nat.lt_of_lt_of_le HP.out.lt i1; (try have ne : gi ≠ gf := by omega); (try have HF := Lib.hid (HF.out.below h4 i4)); have HI := Lib.hid hA; have HP := Lib.hid (HP.out.below h4); have HB := Lib.hid (chain HB.out h4); have s0 := HP.out.cell 0 _ rfl; clear hA h4)
      | (go_at_call_of 13 sb; refine (Mo.SceneB_any n sb 2 N H01.out HN.out _).mono ?_; rintro e V2 ⟨gf, F2, rfl, i3, i4, hA, fbd, h5⟩; have HBD := Lib.hid fbd; have m2 := Nat.lt_of_lt_of_le HP.out.lt i3; (try have ne : gi ≠ gf := by omega); (try have HI := Lib.hid (HI.out.below h5 i2)); have HF := Lib.hid hA; have HP := Lib.hid (HP.out.below h5); have HB := Lib.hid (chain HB.out h5); have s0 := HP.out.cell 0 _ rfl; clear hA h5 fbd))
    all_goals (go_wp2_with fail; go_meet; exact ⟨_, _, _, _, rfl, rfl, m1, m2, ne, HI.out, HF.out, HBD.out, HP.out, HB.out⟩)
  case rest =>
  obtain ⟨gi, gf, f0, F2, rfl, rfl, m1, m2, ne, hI, hF, hbd, hP, hB⟩ := hcut
  have HI := Lib.hid hI
  have HF := Lib.hid hF
  have HP := Lib.hid hP
  have HB := Lib.hid hB
  have HBD := Lib.hid hbd
  have z1 := hI.lt N0
  have z2 := hF.lt N0
  clear hI hF hP hB hbd s0
  go_wp2_with fail
  refine (CopyBytes_any _ N f0 _ (by omega) (arr_part HI.out N0 (Nat.le_refl _) Nm)).mono ?_
  rintro e v5 ⟨gy, cy, rfl, n2, n3, n4, n5, hL, h5⟩
  have HY := Lib.hid hL
  have HI := Lib.hid (HI.out.below h5 z1)
  have HF := Lib.hid (HF.out.below h5 z2)
  have HP := Lib.hid (HP.out.below h5)
  have HB := Lib.hid (chain HB.out h5)
  have z1 := Nat.lt_of_lt_of_le z1 h5.size
  have z2 := Nat.lt_of_lt_of_le z2 h5.size
  have y1 : gi < gy := by omega
  have y2 : gf < gy := by omega
  clear hL h5 n2
  go_wp2_with fail
  refine (CopyBytes_any _ N f0 _ (by omega) (arr_part HI.out N0 (Nat.le_refl _) Nm)).mono ?_
  rintro e v6 ⟨gz, cz, rfl, k2, k3, k4, k5, hL, h5⟩
  have HZ := Lib.hid hL
  have HI := Lib.hid (HI.out.below h5 z1)
  have HF := Lib.hid (HF.out.below h5 z2)
  have HY := Lib.hid (HY.out.below h5 n3)
  have HP := Lib.hid (HP.out.below h5)
  have HB := Lib.hid (chain HB.out h5)
  have z1 := Nat.lt_of_lt_of_le z1 h5.size
  have z2 := Nat.lt_of_lt_of_le z2 h5.size
  have n3 := Nat.lt_of_lt_of_le n3 h5.size
  have y3 : gy < gz := by omega
  clear hL h5 k2
  have s0 := HP.out.cell 0 _ rfl
  go_upto_if 41 with fail
  go_cut [18, 21] (fun u v wx => ∃ (fq : Option Addr) (NF fc : Nat) (F : Nat → Int) (wq : Option Addr) (wc : Nat) (FW : Nat → Int), u = .slice fq NF fc ∧ v = .slice wq N wc ∧ (0 < NF → ∀ x, fq = some x → x.block ≠ gi ∧ x.block ≠ gy ∧ x.block ≠ gz) ∧ (∀ x, wq = some x → x.block ≠ gi ∧ x.block ≠ gy ∧ x.block ≠ gz) ∧ (NF = 0 ∨ NF = N) ∧ (∀ i, 0 ≤ F i ∧ F i ≤ 255) ∧ FW = aF NF F ∧ Hid (Sl .u8 wx (.slice fq NF fc) NF F) ∧ Hid (Sl .u8 wx (.slice wq N wc) N FW) ∧ Hid (Arr wx .u8 gi N f0) ∧ Hid (Arr wx .u8 gy N f0) ∧ Hid (Arr wx .u8 gz N f0) ∧ Hid (At wx v2.heap.size #[.int .i64 n, .int .i64 g, .int .i64 a] 28) ∧ Hid (Below w.heap.size w wx) ∧ v6.heap.size ≤ wx.heap.size)
  case first =>
    cases no with
    | true =>
      go_wp2_with (go_at_call 30; refine (Pa.Grey_any n _).mono ?_; rintro e v7 ⟨v, rfl, hR, h7⟩; rw [HGN.out] at hR; obtain ⟨gw, wc, rfl, r1, r2, r3, r4, rA⟩ := res_arr hR N0; have HI := Lib.hid (HI.out.below h7 z1); have HY := Lib.hid (HY.out.below h7 n3); have HZ := Lib.hid (HZ.out.below h7 k3); have HP := Lib.hid (HP.out.below h7); have HB := Lib.hid (chain HB.out h7); have HW := Lib.hid (arr_part rA N0 r3 r4); have z7 := h7.size; clear hR h7 rA)
      go_meet
      refine ⟨none, 0, 0, fun _ => 0, some ⟨gw, 0, none⟩, wc, fun _ => 128, rfl, rfl, fun h => absurd h (by omega), fun x e => by cases e; (show gw ≠ gi ∧ gw ≠ gy ∧ gw ≠ gz); omega, .inl rfl, fun _ => (show (0 : Int) ≤ 0 ∧ (0 : Int) ≤ 255 by omega), rfl, Lib.hid (nil_sl _ _), HW, HI, HY, HZ, HP, HB, z7⟩
    | false =>
      go_wp2_with fail
      go_meet
      refine ⟨some ⟨gf, 0, none⟩, N, N, F2, some ⟨gf, 0, none⟩, N, F2, rfl, rfl, fun _ x e => by cases e; (show gf ≠ gi ∧ gf ≠ gy ∧ gf ≠ gz); omega, fun x e => by cases e; (show gf ≠ gi ∧ gf ≠ gy ∧ gf ≠ gz); omega, .inr rfl, HBD.out, ?_, Lib.hid (arr_part HF.out N0 (Nat.le_refl _) Nm), Lib.hid (arr_part HF.out N0 (Nat.le_refl _) Nm), HI, HY, HZ, HP, HB, Nat.le_refl _⟩
      unfold aF; rw [if_neg (by omega)]
  case rest =>
  obtain ⟨fq, NF, fc, F, wq, wc', FW, rfl, rfl, hfq, hwq, hNF, hbd, hFW, HS1, HS2, HI, HY, HZ, HP, HB, z8⟩ := hcut
  clear HF HBD HGN s0
  have s0 := HP.out.cell 0 _ rfl
  have s1 := HP.out.cell 1 _ rfl
  have s2 := HP.out.cell 2 _ rfl
  go_upto_region 10 with fail
  have b9 := (((Below.refl wc.heap.size wc).alloc (Nat.le_refl _) (.cells #[.int .i64 a, .int .i64 5, .int .i64 0, .int .i64 0, .int .i64 0, .int .i64 0, .slice none 0 0] 24)).drew)
  have ok : SC.ok ⟨n, g, a, v2.heap.size, wc.heap.size, gi, gy, gz, N, cy, cz, N, fq, NF, fc, F, wq, wc', FW⟩ w := ⟨⟨by have := zb; omega, by have := zb; show w.heap.size ≤ wc.heap.size; omega, by have := zb; show w.heap.size ≤ gi; omega, by have := zb; show w.heap.size ≤ gy; omega, by have := zb; show w.heap.size ≤ gz; omega⟩, ⟨by show gi ≠ gy; omega, by show gi ≠ gz; omega, by show gy ≠ gz; omega⟩, ⟨by show v2.heap.size ≠ gi; omega, by show v2.heap.size ≠ gy; omega, by show v2.heap.size ≠ gz; omega⟩, ⟨by show wc.heap.size ≠ gi; omega, by show wc.heap.size ≠ gy; omega, by show wc.heap.size ≠ gz; omega⟩, ⟨Nat.le_refl _, n4, k4, Nm, n5, k5⟩, hfq, hwq, HC.out, HN.out, hNF, N0, hbd, hFW⟩
  have OK := Lib.hid ok
  have S0 : Hid (SK ⟨n, g, a, v2.heap.size, wc.heap.size, gi, gy, gz, N, cy, cz, N, fq, NF, fc, F, wq, wc', FW⟩ w _ f0 f0 f0) := Lib.hid ⟨HP.out.below b9, (At.new wc _ _).below (Below.refl _ _).drew, HI.out.below b9 (by omega), HY.out.below b9 (by omega), HZ.out.below b9 (by omega), HS1.out.below b9, HS2.out.below b9, chain HB.out b9⟩
  have QB : Hid (1 ≤ 1 + q1 ∧ 1 + q1 ≤ 31) := Lib.hid (by omega)
  clear b9 ok HP HI HY HZ HS1 HS2 HB hfq hwq hNF hbd hFW s0 s1 s2
  generalize wc.alloc (.cells #[.int .i64 a, .int .i64 5, .int .i64 0, .int .i64 0, .int .i64 0, .int .i64 0, .slice none 0 0] 24) = V9 at *
  generalize wc.heap.size = mB at *
  have s0 := S0.out.spot.cell 0 _ rfl
  have s1 := S0.out.spot.cell 1 _ rfl
  have s2 := S0.out.spot.cell 2 _ rfl
  have t0 := S0.out.mac.cell 0 _ rfl
  have t1 := S0.out.mac.cell 1 _ rfl
  have t2 := S0.out.mac.cell 2 _ rfl
  have t3 := S0.out.mac.cell 3 _ rfl
  have t4 := S0.out.mac.cell 4 _ rfl
  have t5 := S0.out.mac.cell 5 _ rfl
  have t6 := S0.out.mac.cell 6 _ rfl
  go_cut [70] (fun u wx => u = .bool false ∧ Hid (SK ⟨n, g, a, v2.heap.size, mB, gi, gy, gz, N, cy, cz, N, fq, NF, fc, F, wq, wc', FW⟩ w wx (Pa.copF n g a (aF NF F) f0 6) (Pa.copF n g a (aF NF F) f0 6) (Pa.copF n g a (aF NF F) f0 6)))
  case first =>
    go_region_with (first
      | (go_at_call 31; refine (Pick_any qu 31 _ (by omega) (by omega)).mono ?_; rintro e v3 ⟨rfl, rfl⟩; rw [HQ1.out])
      | (go_at_call 16; refine (S0.out.toX OK.out _ QB.out).mono ?_; rintro e v4 ⟨rfl, hS⟩; clear s0 s1 s2 t0 t1 t2 t3 t4 t5 t6; have S1 := Lib.hid hS; have s0 := S1.out.spot.cell 0 _ rfl; have s1 := S1.out.spot.cell 1 _ rfl; have s2 := S1.out.spot.cell 2 _ rfl; clear hS)
      | (go_at_call 26; refine (S1.out.toY OK.out).mono ?_; rintro e v5 ⟨rfl, hS⟩; clear s0 s1 s2; have S2 := Lib.hid hS; have s0 := S2.out.spot.cell 0 _ rfl; have s1 := S2.out.spot.cell 1 _ rfl; have s2 := S2.out.spot.cell 2 _ rfl; clear hS)
      | (go_at_call 32; refine (S2.out.toZ OK.out).mono ?_; rintro e v6 ⟨rfl, hS⟩; have S3 := Lib.hid hS; clear hS s0 s1 s2))
    all_goals (go_wp2_with fail; go_meet; exact ⟨rfl, S3⟩)
  case rest =>
  obtain ⟨rfl, S3⟩ := hcut
  clear s0 s1 s2 t0 t1 t2 t3 t4 t5 t6
  have A1 := Lib.hid (arr_part S3.out.x N0 (Nat.le_refl _) Nm)
  have A2 := Lib.hid (arr_part S3.out.y N0 n4 n5)
  have A3 := Lib.hid (arr_part S3.out.z N0 k4 k5)
  go_wp2_with (first
    | (go_at_call_of 17 gi; refine (SameBytes_true _ _ _ _ _ _ A1.out A3.out (fun _ _ => rfl)).mono ?_; rintro e w7 ⟨rfl, rfl⟩)
    | (go_at_call_of 17 gy; refine (SameBytes_true _ _ _ _ _ _ A2.out A3.out (fun _ _ => rfl)).mono ?_; rintro e w7 ⟨rfl, rfl⟩))
  go_ret
  exact ⟨rfl, S3.out.bel⟩
end Bl
end Go.Proofs.YtbmglemjfodfhaaGreat
