/- PaintBack. -/
import Derived.Test.YtkeempljogjceaaPaG
import Derived.Test.YtkeempljogjceaaPaF
import Derived.Test.YtkeempljogjceaaPaE
import Derived.Test.YtkeempljogjceaaCpB
import Derived.Deep.RegionWith
namespace Go.Proofs.Ytkeempljogjceaa
open Go.RowKit
namespace Pa
open Fr Pt

/-- 64 times x, but one. -/
def butF (x x1 : Int) (m : Nat) : Nat → Int := fun j => if j = m then x1 else x
theorem back_plain {n g a : Int} {k o : Nat} (s t f : Nat → Int) (hc : cE n g a = 0) (hk : 1 ≤ k ∧ k ≤ 6) (ho : 1 ≤ o ∧ o ≤ 6) (i : Nat) (hi : i < 64) :
    layB n g a o t (layB n g a o t (layB n g a k s f)) (adr n g a o i) = t i ∧ (k ≠ o → layB n g a o t (layB n g a o t (layB n g a k s f)) (adr n g a k i) = s i) := by
  refine ⟨layB_at t _ hc ho i hi, fun hne => ?_⟩
  have off : ∀ j, j < 64 → adr n g a k i ≠ adr n g a o j := fun j hj e => hne (adr_apart n g a k o i j hc hk ho hi hj e).1
  rw [layB_off t _ _ off, layB_off t _ _ off, layB_at s _ hc hk i hi]
/-- the spot, as it is drawn. -/
theorem spot_ok (f g a : Int) : cE (f % 2) (if f % 2 = 0 then 1 + 2 * (g % 3) else 1 + g % 12) (1 + a % 33) = 0 := by
  have m3 := Int.emod_nonneg g (show (12 : Int) ≠ 0 by omega)
  have m4 := Int.emod_lt_of_pos g (show (0 : Int) < 12 by omega)
  have m5 := Int.emod_nonneg a (show (33 : Int) ≠ 0 by omega)
  have m6 := Int.emod_lt_of_pos a (show (0 : Int) < 33 by omega)
  have m7 := Int.emod_nonneg g (show (3 : Int) ≠ 0 by omega)
  have m8 := Int.emod_lt_of_pos g (show (0 : Int) < 3 by omega)
  by_cases h0 : f % 2 = 0
  · rw [if_pos h0, h0]
    exact in_group 0 _ _ (.inl rfl) (by omega) (by omega) (by omega)
  · rw [if_neg h0, show f % 2 = 1 by omega]
    exact in_group 1 _ _ (.inr rfl) (by omega) (by omega) (by omega)
/-- a picture of its own, and a block of it laid, fetched. -/
theorem lay_step (b N sb : Nat) (f s : Nat → Int) (n g a : Int) (k : Nat) (w : World) (hA : Arr w .u8 b N f) (hI : Arr w .u8 sb 64 s) (hne : sb ≠ b) (hc : cE n g a = 0) (hN : (N : Int) = zV n) (hk : 1 ≤ k ∧ k ≤ 6) (h0 : 0 < N) :
    Calls Try.prog 28 #[.slice (some ⟨b, 0, none⟩) N N, .agg #[.int .i64 n, .int .i64 g, .int .i64 a], .int .i64 (k : Int), .slice (some ⟨sb, 0, none⟩) 64 64] w fun e w' => e = .returned (.int .i64 0) ∧ Arr w' .u8 b N (layB n g a k s f) ∧ w.grownBy w' (some b) := by
  refine (Lay_any b N N N _ 64 64 f s n g a k w hA (Nat.le_refl _) (Nat.le_refl _) h0 (arr_sl hI (by omega) (by omega) (by decide)) (fun _ x e => by cases e; exact hne)).mono ?_
  rintro e w' ⟨rfl, h1, h2⟩
  rw [layE_ok hc hN rfl (by omega)]
  rw [layG_B s f hc hN hk] at h1
  exact ⟨rfl, h1, h2⟩
theorem fetch_step (b N : Nat) (f : Nat → Int) (n g a : Int) (k : Nat) (w : World) (hA : Arr w .u8 b N f) (hc : cE n g a = 0) (hN : (N : Int) = zV n) (hk : 1 ≤ k ∧ k ≤ 6) (h0 : 0 < N) (hm : N ≤ maxLen) :
    Calls Try.prog 27 #[.slice (some ⟨b, 0, none⟩) N N, .agg #[.int .i64 n, .int .i64 g, .int .i64 a], .int .i64 (k : Int), .int .i64 0, .int .i64 0] w fun e w' => ∃ v, e = .returned (.tuple #[v, .int .i64 0]) ∧ Res .u8 w.heap.size w' v 64 (fun i => f (adr n g a k i)) ∧ Below w.heap.size w w' := by
  refine (Mo.Fetch_any _ N f n g a k 0 0 w (part_sl2 hA h0 hm) (by decide) (by decide)).mono ?_
  rintro e w' ⟨v, rfl, h1, h2⟩
  rw [fetE_00 n g a k N hc hN (by omega)]
  rw [fetN_00 n g a k N hc hN (by omega)] at h1
  refine ⟨v, rfl, ?_, h2⟩
  rcases h1 with ⟨h, _⟩ | ⟨gg, c, rfl, h3, h4, h5, h6, h7⟩
  · omega
  · exact .inr ⟨gg, c, rfl, h3, h4, h5, h6, h7.congr (fun i hi => fet_adr f n g a k i hc hk)⟩
/-- the worlds between PaintBack's calls: the picture reads f. -/
structure BC where
  (n g a : Int) (sp gi r1 r2 N : Nat) (o1 o2 : Nat → Int)
structure BC.ok (c : BC) (W : World) : Prop where
  sp : W.heap.size ≤ c.sp
  gi : c.sp < c.gi
  r1 : c.gi < c.r1
  r2 : c.r1 < c.r2
  hc : cE c.n c.g c.a = 0
  N : (c.N : Int) = zV c.n
  n0 : 0 < c.N
  nm : c.N ≤ maxLen
structure BK (c : BC) (W w : World) (f : Nat → Int) : Prop where
  spot : SpotAt w c.sp c.n c.g c.a
  pic : Arr w .u8 c.gi c.N f
  one : Arr w .u8 c.r1 64 c.o1
  two : Arr w .u8 c.r2 64 c.o2
  bel : Below W.heap.size W w
section
variable {c : BC} {W w : World} {f : Nat → Int}
theorem BK.below {w' : World} (h : BK c W w f) (ok : c.ok W) (hb : Below w.heap.size w w') : BK c W w' f where
  spot := h.spot.kept (grown_of_below hb none) (by simp)
  pic := h.pic.below hb (h.pic.lt ok.n0)
  one := h.one.below hb (h.one.lt (by omega))
  two := h.two.below hb (h.two.lt (by omega))
  bel := chain h.bel hb
theorem BK.to {w' : World} {f' : Nat → Int} (h : BK c W w f) (ok : c.ok W) (hA : Arr w' .u8 c.gi c.N f') (hg : w.grownBy w' (some c.gi)) : BK c W w' f' := by
  have k1 := ok.sp; have k2 := ok.gi; have k3 := ok.r1; have k4 := ok.r2
  exact {
    spot := h.spot.kept hg (fun e => by have := Option.some.inj e; omega)
    pic := hA
    one := h.one.grown hg (fun e => by have := Option.some.inj e; omega)
    two := h.two.grown hg (fun e => by have := Option.some.inj e; omega)
    bel := h.bel.grown hg h.bel.size (fun b e => by have := Option.some.inj e; omega) }
theorem BK.lay1 (h : BK c W w f) (ok : c.ok W) (k : Nat) (hk : 1 ≤ k ∧ k ≤ 6) :
    Calls Try.prog 28 #[.slice (some ⟨c.gi, 0, none⟩) c.N c.N, .agg #[.int .i64 c.n, .int .i64 c.g, .int .i64 c.a], .int .i64 (k : Int), .slice (some ⟨c.r1, 0, none⟩) 64 64] w fun e w' => e = .returned (.int .i64 0) ∧ BK c W w' (layB c.n c.g c.a k c.o1 f) ∧ w.grownBy w' (some c.gi) := by
  have k3 := ok.r1
  refine (lay_step c.gi c.N c.r1 f c.o1 c.n c.g c.a k w h.pic h.one (by omega) ok.hc ok.N hk ok.n0).mono ?_
  rintro e w' ⟨rfl, hA, hg⟩
  exact ⟨rfl, h.to ok hA hg, hg⟩
theorem BK.lay2 (h : BK c W w f) (ok : c.ok W) (k : Nat) (hk : 1 ≤ k ∧ k ≤ 6) :
    Calls Try.prog 28 #[.slice (some ⟨c.gi, 0, none⟩) c.N c.N, .agg #[.int .i64 c.n, .int .i64 c.g, .int .i64 c.a], .int .i64 (k : Int), .slice (some ⟨c.r2, 0, none⟩) 64 64] w fun e w' => e = .returned (.int .i64 0) ∧ BK c W w' (layB c.n c.g c.a k c.o2 f) ∧ w.grownBy w' (some c.gi) := by
  have k3 := ok.r1
  have k4 := ok.r2
  refine (lay_step c.gi c.N c.r2 f c.o2 c.n c.g c.a k w h.pic h.two (by omega) ok.hc ok.N hk ok.n0).mono ?_
  rintro e w' ⟨rfl, hA, hg⟩
  exact ⟨rfl, h.to ok hA hg, hg⟩
theorem BK.fetch (h : BK c W w f) (ok : c.ok W) (k : Nat) (hk : 1 ≤ k ∧ k ≤ 6) :
    Calls Try.prog 27 #[.slice (some ⟨c.gi, 0, none⟩) c.N c.N, .agg #[.int .i64 c.n, .int .i64 c.g, .int .i64 c.a], .int .i64 (k : Int), .int .i64 0, .int .i64 0] w fun e w' => ∃ v, e = .returned (.tuple #[v, .int .i64 0]) ∧ Res .u8 w.heap.size w' v 64 (fun i => f (adr c.n c.g c.a k i)) ∧ Below w.heap.size w w' :=
  fetch_step c.gi c.N f c.n c.g c.a k w h.pic ok.hc ok.N hk ok.n0 ok.nm
theorem BK.start (h : BK c W w f) (ok : c.ok W) (i j : Nat) (x y : Int) :
    BK { c with o1 := fun m => if m = i then x else c.o1 m, o2 := fun m => if m = j then y else c.o2 m } W ((w.setCell ⟨c.r1, i, none⟩ (.int .u8 x)).setCell ⟨c.r2, j, none⟩ (.int .u8 y)) f := by
  have k1 := ok.sp; have k2 := ok.gi; have k3 := ok.r1; have k4 := ok.r2
  have g1 : w.grownBy (w.setCell ⟨c.r1, i, none⟩ (.int .u8 x)) (some c.r1) := grown_set (World.grownBy.refl w _) i _
  have g2 : (w.setCell ⟨c.r1, i, none⟩ (.int .u8 x)).grownBy ((w.setCell ⟨c.r1, i, none⟩ (.int .u8 x)).setCell ⟨c.r2, j, none⟩ (.int .u8 y)) (some c.r2) := grown_set (World.grownBy.refl _ _) j _
  have b1 : Below W.heap.size W (w.setCell ⟨c.r1, i, none⟩ (.int .u8 x)) := h.bel.grown g1 h.bel.size (fun b e => by have := Option.some.inj e; omega)
  exact {
    spot := (h.spot.kept g1 (fun e => by have := Option.some.inj e; omega)).kept g2 (fun e => by have := Option.some.inj e; omega)
    pic := (h.pic.grown g1 (fun e => by have := Option.some.inj e; omega)).grown g2 (fun e => by have := Option.some.inj e; omega)
    one := (h.one.set i x).grown g2 (fun e => by have := Option.some.inj e; omega)
    two := (h.two.grown g1 (fun e => by have := Option.some.inj e; omega)).set j y
    bel := b1.grown g2 b1.size (fun b e => by have := Option.some.inj e; omega) }
end
set_option maxRecDepth 100000 in
set_option maxHeartbeats 4000000 in
theorem PaintBack_any (fo gr ad bl ot sa sb x y : Int) (w : World) (_ : (Lit.int .i64 fo).wf = true) (_ : (Lit.int .i64 gr).wf = true) (_ : (Lit.int .i64 ad).wf = true) (_ : (Lit.int .i64 bl).wf = true) (_ : (Lit.int .i64 ot).wf = true) (_ : (Lit.int .i64 sa).wf = true) (_ : (Lit.int .i64 sb).wf = true) (_ : (Lit.int .u8 x).wf = true) (_ : (Lit.int .u8 y).wf = true) :
    Calls Try.prog 8 #[.int .i64 fo, .int .i64 gr, .int .i64 ad, .int .i64 bl, .int .i64 ot, .int .i64 sa, .int .i64 sb, .int .u8 x, .int .u8 y] w fun e w' => e = .returned (.bool true) ∧ Below w.heap.size w w' := by
  have hc0 := spot_ok fo gr ad
  obtain ⟨n, hn⟩ : ∃ n, fo % 2 = n := ⟨_, rfl⟩
  obtain ⟨g, hg⟩ : ∃ g, (if fo % 2 = 0 then 1 + 2 * (gr % 3) else 1 + gr % 12) = g := ⟨_, rfl⟩
  obtain ⟨a, ha⟩ : ∃ a, 1 + ad % 33 = a := ⟨_, rfl⟩
  obtain ⟨q1, hq1⟩ : ∃ q, bl % 6 = q := ⟨_, rfl⟩
  obtain ⟨q2, hq2⟩ : ∃ q, ot % 6 = q := ⟨_, rfl⟩
  have b1 : 0 ≤ q1 ∧ q1 ≤ 5 := by omega
  have b2 : 0 ≤ q2 ∧ q2 ≤ 5 := by omega
  obtain ⟨k, hk⟩ : ∃ k : Nat, 1 + q1 = (k : Int) := ⟨(1 + q1).toNat, by omega⟩
  obtain ⟨o, ho⟩ : ∃ o : Nat, 1 + q2 = (o : Int) := ⟨(1 + q2).toNat, by omega⟩
  have kb : 1 ≤ k ∧ k ≤ 6 := by omega
  have ob : 1 ≤ o ∧ o ≤ 6 := by omega
  have ek : IntKind.i64.wrap (1 + q1) = (k : Int) := by rw [← hk]; exact IntWalk.i64_in _ (by omega)
  have eo : IntKind.i64.wrap (1 + q2) = (o : Int) := by rw [← ho]; exact IntWalk.i64_in _ (by omega)
  obtain ⟨x1, ex⟩ : ∃ x1, IntKind.u8.wrap (x + 1) = x1 := ⟨_, rfl⟩
  obtain ⟨y1, ey⟩ : ∃ y1, IntKind.u8.wrap (y + 3) = y1 := ⟨_, rfl⟩
  rw [hg, ha, hn] at hc0
  have hn01 : n = 0 ∨ n = 1 := by omega
  obtain ⟨N, hN⟩ : ∃ N : Nat, (N : Int) = zV n := ⟨(zV n).toNat, by rcases hn01 with rfl | rfl <;> rfl⟩
  have Nb : 38016 ≤ N ∧ N ≤ 152064 := by rcases hn01 with rfl | rfl <;> (have : (N : Int) = _ := hN; simp [zV] at this; omega)
  have Nm : N ≤ maxLen := Nat.le_trans Nb.2 (by decide)
  have N0 : 0 < N := by omega
  have SP : Hid (∀ V : World, Calls Try.prog 25 #[.int .i64 fo, .int .i64 gr, .int .i64 ad] V fun e w' => e = .returned (.agg #[.int .i64 n, .int .i64 g, .int .i64 a]) ∧ Below V.heap.size V w') := Lib.hid (fun V => by rw [← hn, ← hg, ← ha]; exact Mo.Spot_any fo gr ad V)
  have HQ1 := Lib.hid hq1
  have HQ2 := Lib.hid hq2
  have H01 := Lib.hid hn01
  have HN := Lib.hid hN
  have HC := Lib.hid hc0
  clear hk ho hn01 hN hc0 hn hg ha hq1 hq2
  go_enter Try.func8, Try.ntmps8
  go_wp2_with fail
  refine (PaintKnown_any _).mono ?_
  rintro e v1 ⟨rfl, h1⟩
  have HB := Lib.hid h1
  clear h1
  go_wp2_with fail
  refine (SP.out _).mono ?_
  rintro e v2 ⟨rfl, h2⟩
  have HB := Lib.hid (chain HB.out h2)
  clear h2
  go_wp2_with fail
  refine (Pick_any bl 6 _ (by omega) (by omega)).mono ?_
  rintro e v3 ⟨rfl, rfl⟩
  rw [HQ1.out]
  go_wp2_with fail
  refine (Pick_any ot 6 _ (by omega) (by omega)).mono ?_
  rintro e v3 ⟨rfl, rfl⟩
  rw [HQ2.out]
  have zb := HB.out.size
  have HP : Hid (SpotAt (v2.alloc (.cells #[.int .i64 n, .int .i64 g, .int .i64 a] 29)) v2.heap.size n g a) := Lib.hid (heap_alloc_new v2 _)
  have HB := Lib.hid (HB.out.alloc zb (.cells #[.int .i64 n, .int .i64 g, .int .i64 a] 29))
  go_wp2_with fail
  refine (Mo.Scene_any n sa sb N H01.out HN.out _).mono ?_
  rintro e v4 ⟨gi, f0, rfl, i1, i2, hA, h4⟩
  have HI := Lib.hid hA
  have HP := Lib.hid (HP.out.kept (grown_of_below h4 none) (by simp))
  have HB := Lib.hid (chain HB.out h4)
  have l1 : v2.heap.size < gi := by simp at i1; omega
  clear hA h4 i1
  go_wp2_with fail
  refine (same64_any x _).mono ?_
  rintro e v5 ⟨r1, rfl, j1, j2, hA, h5⟩
  have H1 := Lib.hid hA
  have HI := Lib.hid (HI.out.below h5 i2)
  have HP := Lib.hid (HP.out.kept (grown_of_below h5 none) (by simp))
  have HB := Lib.hid (chain HB.out h5)
  have z5 := h5.size
  clear hA h5
  go_wp2_with fail
  refine (same64_any y _).mono ?_
  rintro e v6 ⟨r2, rfl, j3, j4, hA, h6⟩
  have H2 := Lib.hid hA
  have H1 := Lib.hid (H1.out.below h6 j2)
  have HI := Lib.hid (HI.out.below h6 (by omega))
  have HP := Lib.hid (HP.out.kept (grown_of_below h6 none) (by simp))
  have HB := Lib.hid (chain HB.out h6)
  have z6 := h6.size
  have c9 := H1.out 9 (by omega)
  have c54 := H2.out 54 (by omega)
  have hr12 : r1 ≠ r2 := by omega
  have ok : BC.ok ⟨n, g, a, v2.heap.size, gi, r1, r2, N, fun m => if m = 9 then x1 else x, fun m => if m = 54 then y1 else y⟩ w := ⟨by have := zb; show w.heap.size ≤ v2.heap.size; omega, l1, by show gi < r1; omega, by show r1 < r2; omega, HC.out, HN.out, N0, Nm⟩
  have S0 : Hid (BK ⟨n, g, a, v2.heap.size, gi, r1, r2, N, fun m => if m = 9 then x1 else x, fun m => if m = 54 then y1 else y⟩ w ((v6.setCell ⟨r1, 9, none⟩ (.int .u8 x1)).setCell ⟨r2, 54, none⟩ (.int .u8 y1)) f0) :=
    Lib.hid (BK.start (c := ⟨n, g, a, v2.heap.size, gi, r1, r2, N, fun _ => x, fun _ => y⟩) ⟨HP.out, HI.out, H1.out, H2.out, HB.out⟩ ⟨by have := zb; show w.heap.size ≤ v2.heap.size; omega, l1, by show gi < r1; omega, by show r1 < r2; omega, HC.out, HN.out, N0, Nm⟩ 9 54 x1 y1)
  obtain ⟨s0, s1, s2⟩ := S0.out.spot.cells
  have OK := Lib.hid ok
  clear hA h6 ok HP HI HB H1 H2
  go_wp2_with fail
  refine (S0.out.lay1 OK.out k kb).mono ?_
  rintro e v7 ⟨rfl, hS, _⟩
  obtain ⟨s0, s1, s2⟩ := SpotAt.cells (B := v2.heap.size) (n := n) (g := g) (a := a) hS.spot
  have S1 := Lib.hid hS
  clear hS S0 c9 c54
  go_wp2_with fail
  refine (S1.out.lay2 OK.out o ob).mono ?_
  rintro e v8 ⟨rfl, hS, _⟩
  obtain ⟨s0, s1, s2⟩ := SpotAt.cells (B := v2.heap.size) (n := n) (g := g) (a := a) hS.spot
  have S2 := Lib.hid hS
  clear hS S1
  have hgw : gi < v8.heap.size := S2.out.pic.lt N0
  have HSI := Lib.hid (part_sl2 S2.out.pic N0 Nm)
  go_wp2_with fail
  refine (CopyBytes_any _ N _ _ (by omega) HSI.out).mono ?_
  rintro e v9 ⟨gw, cw, rfl, n2, n3, n4, n5, hL, h9⟩
  have S3 := Lib.hid (S2.out.below OK.out h9)
  have HW := Lib.hid hL
  clear hL h9 S2 HSI
  obtain ⟨s0, s1, s2⟩ := SpotAt.cells (B := v2.heap.size) (n := n) (g := g) (a := a) S3.out.spot
  go_wp2_with fail
  refine (S3.out.lay2 OK.out o ob).mono ?_
  rintro e v10 ⟨rfl, hS, hg⟩
  have HW := Lib.hid (HW.out.grown hg (fun e => by have := Option.some.inj e; dsimp only at this; omega))
  obtain ⟨s0, s1, s2⟩ := SpotAt.cells (B := v2.heap.size) (n := n) (g := g) (a := a) hS.spot
  have S4 := Lib.hid hS
  clear hS hg S3
  have HX := Lib.hid (SameBytes_true _ _ N _ _ _ (arr_sl HW.out N0 n4 n5) (part_sl2 S4.out.pic N0 Nm) (fun i _ => (layB_twice _ _ HC.out ob i).symm))
  obtain ⟨pO, hO⟩ : ∃ P : (i : Nat) → i < 64 → layB n g a o (fun m => if m = 54 then y1 else y) (layB n g a o (fun m => if m = 54 then y1 else y) (layB n g a k (fun m => if m = 9 then x1 else x) f0)) (adr n g a o i) = if i = 54 then y1 else y, True := ⟨fun i hi => (back_plain (fun m => if m = 9 then x1 else x) (fun m => if m = 54 then y1 else y) f0 HC.out kb ob i hi).1, trivial⟩
  obtain ⟨pK, hK⟩ : ∃ P : (i : Nat) → i < 64 → k ≠ o → layB n g a o (fun m => if m = 54 then y1 else y) (layB n g a o (fun m => if m = 54 then y1 else y) (layB n g a k (fun m => if m = 9 then x1 else x) f0)) (adr n g a k i) = if i = 9 then x1 else x, True := ⟨fun i hi => (back_plain (fun m => if m = 9 then x1 else x) (fun m => if m = 54 then y1 else y) f0 HC.out kb ob i hi).2, trivial⟩
  have PO := Lib.hid pO
  have PK := Lib.hid pK
  clear hO hK pO pK HW
  go_wp2_with fail
  refine HX.out.mono ?_
  rintro e v11 ⟨rfl, rfl⟩
  clear HX
  go_wp2_with fail
  refine (S4.out.fetch OK.out k kb).mono ?_
  rintro e v11 ⟨u1, rfl, hR, hb⟩
  have R1 := Lib.hid hR
  have S5 := Lib.hid (S4.out.below OK.out hb)
  clear hR hb S4
  obtain ⟨s0, s1, s2⟩ := SpotAt.cells (B := v2.heap.size) (n := n) (g := g) (a := a) S5.out.spot
  go_wp2_with fail
  refine (S5.out.fetch OK.out o ob).mono ?_
  rintro e v12 ⟨u2, rfl, hR, hb⟩
  have R2 := Lib.hid hR
  have R1 := Lib.hid (R1.out.below hb)
  have S6 := Lib.hid (S5.out.below OK.out hb)
  clear hR hb S5 s0 s1 s2
  by_cases hko : k = o
  · have tko : ((k : Int) == (o : Int)) = true := by simp [hko]
    go_wp2_with fail
    refine (SameBytes_true _ _ 64 _ _ _ R1.out.sl (arr_sl S6.out.two (by omega) (by omega) (by decide)) (fun i hi => by subst hko; exact PO.out i hi)).mono ?_
    rintro e v13 ⟨rfl, rfl⟩
    go_wp2_with fail
    refine (SameBytes_true _ _ 64 _ _ _ R2.out.sl (arr_sl S6.out.two (by omega) (by omega) (by decide)) (fun i hi => PO.out i hi)).mono ?_
    rintro e v13 ⟨rfl, rfl⟩
    go_wp2_with fail
    go_ret
    exact ⟨rfl, S6.out.bel⟩
  · have tko : ((k : Int) == (o : Int)) = false := by simp; omega
    go_wp2_with fail
    refine (SameBytes_true _ _ 64 _ _ _ R1.out.sl (arr_sl S6.out.one (by omega) (by omega) (by decide)) (fun i hi => PK.out i hi hko)).mono ?_
    rintro e v13 ⟨rfl, rfl⟩
    go_wp2_with fail
    refine (SameBytes_true _ _ 64 _ _ _ R2.out.sl (arr_sl S6.out.two (by omega) (by omega) (by decide)) (fun i hi => PO.out i hi)).mono ?_
    rintro e v13 ⟨rfl, rfl⟩
    go_wp2_with fail
    go_ret
    exact ⟨rfl, S6.out.bel⟩
end Pa
end Go.Proofs.Ytkeempljogjceaa
