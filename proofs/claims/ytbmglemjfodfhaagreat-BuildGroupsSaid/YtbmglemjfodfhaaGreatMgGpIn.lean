/- build.Group. | BuildParts. | A parameter that is a group. -/
import Derived.Test.YtbmglemjfodfhaaGreatMgBl2
import Derived.Test.YtbmglemjfodfhaaGreatMgGr2
import Derived.Test.YtbmglemjfodfhaaGreatMgGr3
import Derived.Test.YtbmglemjfodfhaaGreatMgPa1
import Derived.Test.YtbmglemjfodfhaaGreatMgPairIn
import Derived.Test.YtbmglemjfodfhaaGreatMgPick
import Derived.Test.YtbmglemjfodfhaaGreatMgRegSt
import Derived.Test.YtbmglemjfodfhaaGreatMgScb
import Derived.Deep.DeepCutAuto
import Derived.Deep.RegionHeld3
import Derived.Deep.RegionWith
import Derived.Defers
import Derived.Sort.CutIn
set_option linter.unusedVariables false
set_option linter.unusedSimpArgs false
namespace Go.Proofs.YtbmglemjfodfhaaGreat
open Go.RowKit Go.Shelf
attribute [local go_sem] Oper.semAt_some
namespace Bl
open Bk Fr Pt Kd Bu
theorem places_seq (v : Value) (a : Option Addr) (b o m c : Nat) (Ms : Nat → MB) (hv : v = .slice a m c) (ha : 0 < m → a = some ⟨b, o, none⟩) (hmc : m ≤ c) (hcm : c ≤ maxLen) (mm : Nat) (hm : 1 ≤ mm) (B Bl : Nat) (bl : B ≤ Bl) (hbB : b ≠ Bl) (w : World) (hb : b < w.heap.size) (h1 : Boxed w Bl 54 v) (hG : ∀ j, j < m → w.cell? ⟨b, o + j * 7, none⟩ = some (.int .i64 (Ms j).ad)) :
    SeqB mm Tryz.prog 124 #[.pointer (some ⟨Bl, 0, none⟩)] (encG b o Ms m) (KpM B b) (fun ys => ys = List.finRange 33) (fun pre => pre <+: List.finRange 33) 33 Bl w := fun l J Jx W hW hl hlW hJ hJx hJB hY h0 =>
  places1_in v a b o m c Ms hv ha hmc hcm mm hm l B Bl bl (by have := h1.lt; omega) (by omega) hbB J Jx W (fun pre A C h hg => hJ pre A C none h hg (fun _ e => by cases e)) hJB hY h0 (h1.kept (grown_of_below hW none) (by simp)) (fun j hj => (hW.cell (p := ⟨b, o + j * 7, none⟩) (World.block_lt_of_cell? _ _ (hG j hj))).trans (hG j hj))
def gS (n num : Int) (N NF : Nat) (F f : Nat → Int) (qt : Int) (Ms : Nat → MB) (m : Nat) (pre : List (Fin 33)) : Int × (Nat → Int) :=
  pre.foldl (fun s x => ((if hitB Ms m (nx Ms m x.val) x.val = true then (if 0 < (Ms (nx Ms m x.val)).qt then (Ms (nx Ms m x.val)).qt else s.1) else s.1),
    if hitB Ms m (nx Ms m x.val) x.val = true then macF (Ms (nx Ms m x.val)) n num ((x.val : Int) + 1) N NF (if hitB Ms m (nx Ms m x.val) x.val = true then (if 0 < (Ms (nx Ms m x.val)).qt then (Ms (nx Ms m x.val)).qt else s.1) else s.1) F s.2 else Pa.copG n num ((x.val : Int) + 1) N NF F s.2)) (qt, f)
theorem gS_hit {n num : Int} {N NF : Nat} {F f : Nat → Int} {qt : Int} {Ms : Nat → MB} {m : Nat} {pre : List (Fin 33)} {x : Fin 33} (h : hitB Ms m (nx Ms m x.val) x.val = true) :
    gS n num N NF F f qt Ms m (pre ++ [x]) = ((if 0 < (Ms (nx Ms m x.val)).qt then (Ms (nx Ms m x.val)).qt else (gS n num N NF F f qt Ms m pre).1), macF (Ms (nx Ms m x.val)) n num ((x.val : Int) + 1) N NF (if 0 < (Ms (nx Ms m x.val)).qt then (Ms (nx Ms m x.val)).qt else (gS n num N NF F f qt Ms m pre).1) F (gS n num N NF F f qt Ms m pre).2) := by
  unfold gS
  rw [List.foldl_append]
  simp only [List.foldl_cons, List.foldl_nil, h, if_true]
theorem gS_miss {n num : Int} {N NF : Nat} {F f : Nat → Int} {qt : Int} {Ms : Nat → MB} {m : Nat} {pre : List (Fin 33)} {x : Fin 33} (h : hitB Ms m (nx Ms m x.val) x.val = false) :
    gS n num N NF F f qt Ms m (pre ++ [x]) = ((gS n num N NF F f qt Ms m pre).1, Pa.copG n num ((x.val : Int) + 1) N NF F (gS n num N NF F f qt Ms m pre).2) := by
  unfold gS
  rw [List.foldl_append]
  simp only [List.foldl_cons, List.foldl_nil, h, if_false, Bool.false_eq_true]
theorem gS_all (n num : Int) (N NF : Nat) (F f : Nat → Int) (qt : Int) (Ms : Nat → MB) (m : Nat) : gS n num N NF F f qt Ms m (List.finRange 33) = (gQ qt Ms m 33, gP n num N NF F f qt Ms m 33) := by
  have e : ∀ k (hk : k ≤ 33), gS n num N NF F f qt Ms m ((List.finRange 33).take k) = (gQ qt Ms m k, gP n num N NF F f qt Ms m k) := by
    intro k
    induction k with
    | zero => intro _; rfl
    | succ k ih =>
      intro hk
      have e1 : (List.finRange 33)[k]'(by simp; omega) = (⟨k, by omega⟩ : Fin 33) := by simp
      rw [List.take_succ_eq_append_getElem (by simp; omega), e1]
      by_cases h : hitB Ms m (nx Ms m k) k = true
      · rw [gS_hit (x := ⟨k, by omega⟩) h, ih (by omega), gQ_hit h, gP_hit h, gQ_hit h]
      · have h : hitB Ms m (nx Ms m k) k = false := by simpa using h
        rw [gS_miss (x := ⟨k, by omega⟩) h, ih (by omega), gQ_miss h, gP_miss h]
  have := e 33 (by omega)
  rwa [List.take_of_length_le (by simp)] at this
theorem grown_by2 {w A C : World} {row : Option Nat} {x : Nat} (h : w.grownBy A row) (hg : A.grownBy C (some x)) (hx : w.heap.size ≤ x) : w.grownBy C row :=
  ⟨hg.os.trans h.os, hg.tape.trans h.tape, hg.output.trans h.output, Nat.le_trans h.size hg.size, fun i hi hne => (hg.block i (Nat.lt_of_lt_of_le hi h.size) (fun e => by have := Option.some.inj e; omega)).trans (h.block i hi hne)⟩
def KpB (B b : Nat) (V W : World) : Prop := V.heap.size ≤ W.heap.size ∧ ∀ i, (B ≤ i ∨ i = b) → i < V.heap.size → W.heap[i]? = V.heap[i]?
theorem kpB_below {B b : Nat} {V W : World} (h : Below V.heap.size V W) : KpB B b V W := ⟨h.size, fun i _ hi => h.block i hi⟩
theorem kpB_some {B b x : Nat} {V W : World} (h : V.grownBy W (some x)) (hx : x < B) (hb : b ≠ x) : KpB B b V W := ⟨h.size, fun i hi hlt => h.block i hlt (fun e => by have := Option.some.inj e; omega)⟩
theorem kpB_t {B b : Nat} {X Y Z : World} (h : KpB B b X Y) (k : KpB B b Y Z) : KpB B b X Z := ⟨Nat.le_trans h.1 k.1, fun i hi hlt => (k.2 i hi (Nat.lt_of_lt_of_le hlt h.1)).trans (h.2 i hi hlt)⟩
theorem KpB.kpM {B b l : Nat} {V W : World} (h : KpB B b V W) : KpM B b l V W := ⟨h.1, fun i hi _ o ho => (h.2 i hi (Array.getElem?_eq_some_iff.1 ho).1).trans ho⟩
theorem KpB.keeps {B b C : Nat} {V W : World} (h : KpB B b V W) (hC : B ≤ C) : KeepsFrom C V W := ⟨h.1, fun i o hi ho _ => (h.2 i (.inl (by omega)) (Array.getElem?_eq_some_iff.1 ho).1).trans ho⟩
theorem box4 (w : World) (v1 v2 v3 v4 v5 v6 v7 : Value) (t1 t2 t3 t4 : TypeId) :
    Boxed ((((w.alloc (.cells #[v1] t1)).alloc (.cells #[v2] t2)).alloc (.cells #[v3] t3)).alloc (.cells #[v4, v5, v6, v7] t4)) w.heap.size t1 v1
    ∧ Boxed ((((w.alloc (.cells #[v1] t1)).alloc (.cells #[v2] t2)).alloc (.cells #[v3] t3)).alloc (.cells #[v4, v5, v6, v7] t4)) (w.heap.size + 1) t2 v2
    ∧ Boxed ((((w.alloc (.cells #[v1] t1)).alloc (.cells #[v2] t2)).alloc (.cells #[v3] t3)).alloc (.cells #[v4, v5, v6, v7] t4)) (w.heap.size + 2) t3 v3
    ∧ At ((((w.alloc (.cells #[v1] t1)).alloc (.cells #[v2] t2)).alloc (.cells #[v3] t3)).alloc (.cells #[v4, v5, v6, v7] t4)) (w.heap.size + 3) #[v4, v5, v6, v7] t4
    ∧ Below w.heap.size w ((((w.alloc (.cells #[v1] t1)).alloc (.cells #[v2] t2)).alloc (.cells #[v3] t3)).alloc (.cells #[v4, v5, v6, v7] t4)) := by
  have e1 := ((((Boxed.new w t1 v1).alloc (.cells #[v2] t2)).alloc (.cells #[v3] t3)).alloc (.cells #[v4, v5, v6, v7] t4))
  have e2 := (((Boxed.new (w.alloc (.cells #[v1] t1)) t2 v2).alloc (.cells #[v3] t3)).alloc (.cells #[v4, v5, v6, v7] t4))
  have e3 := ((Boxed.new ((w.alloc (.cells #[v1] t1)).alloc (.cells #[v2] t2)) t3 v3).alloc (.cells #[v4, v5, v6, v7] t4))
  have e4 := At.new (((w.alloc (.cells #[v1] t1)).alloc (.cells #[v2] t2)).alloc (.cells #[v3] t3)) #[v4, v5, v6, v7] t4
  simp only [World.size_alloc] at e2 e3 e4
  exact ⟨e1, e2, e3, e4, ((((Below.refl w.heap.size w).alloc (Nat.le_refl _) _).alloc (by simp) _).alloc (by simp; omega) _).alloc (by simp; omega) _⟩
theorem ahead_some (a : Option Addr) (N c : Nat) (n : Int) (w : World) (h0 : 0 < N) :
    Calls Tryz.prog 46 #[.slice a N c, .int .i64 n] w fun e w' => e = .returned (.slice a N c) ∧ w = w' := by
  have t1 : ((N : Int) == 0) = false := by simp; omega
  clear h0
  go_enter Tryz.func46, Tryz.ntmps46
  go_wp2_with fail
  go_ret
  exact ⟨rfl, rfl⟩
def st4 (w : World) (p : Nat) (v : Value) (q : Int) : Nat → World
  | 0 => w.drew
  | 1 => w.drew.alloc (.cells #[.int .i64 0] 3)
  | 2 => (w.drew.alloc (.cells #[.int .i64 0] 3)).setCell ⟨p, 0, none⟩ v
  | _ => ((w.drew.alloc (.cells #[.int .i64 0] 3)).setCell ⟨p, 0, none⟩ v).setCell ⟨w.heap.size, 0, none⟩ (.int .i64 q)
theorem st4_box {w : World} {p b : Nat} {v x : Value} {q : Int} {t : TypeId} (h : Boxed w b t x) (n : Nat) (hn : n ≤ 2) (h1 : 2 ≤ n → p ≠ b) : ∀ k, k ≤ n → Boxed (st4 w p v q k) b t x
  | 0, _ => h.kept (grown_of_below (Below.refl w.heap.size w).drew none) (by simp)
  | 1, _ => (h.kept (grown_of_below (Below.refl w.heap.size w).drew none) (by simp)).alloc _
  | 2, hk => ((h.kept (grown_of_below (Below.refl w.heap.size w).drew none) (by simp)).alloc (.cells #[.int .i64 0] 3)).kept (Kd.grown_cell _ _ _ _) (fun e => h1 hk (Option.some.inj e).symm)
  | k + 3, hk => absurd hk (by omega)
theorem st4_at {w : World} {p b : Nat} {v : Value} {q : Int} {vs : Array Value} {t : TypeId} (h : At w b vs t) (h1 : p ≠ b) : ∀ k, k ≤ 2 → At (st4 w p v q k) b vs t
  | 0, _ => h.below (Below.refl w.heap.size w).drew
  | 1, _ => (h.below (Below.refl w.heap.size w).drew).below ((Below.refl _ _).alloc (Nat.le_refl _) _)
  | 2, _ => ((h.below (Below.refl w.heap.size w).drew).below ((Below.refl _ _).alloc (Nat.le_refl _) (.cells #[.int .i64 0] 3))).kept (Kd.grown_cell _ _ _ _) (fun e => h1 (Option.some.inj e).symm)
  | k + 3, hk => absurd hk (by omega)
section
set_option maxRecDepth 100000
set_option maxHeartbeats 8000000
set_option linter.unusedVariables false
theorem group_no (G : GB) (mvv : Value) (ta fa : Option Addr) (N tc NF fc : Nat) (n : Int) (w : World) (hms : Gsl w mvv G.m G.Ms G.vb) (hsh : ∀ j, j < G.m → Short (G.Ms j)) (hE : gE G n N NF ≠ 0) :
    Calls Tryz.prog 35 #[.slice ta N tc, .slice fa NF fc, .int .i64 n, gv G mvv] w fun e w' => e = .returned (.int .i64 (gE G n N NF)) ∧ Below w.heap.size w w' := by
  have HR := Lib.hid (fun V h => refuses_any G mvv ta fa N tc NF fc n V h hsh)
  obtain ⟨E, hE'⟩ : ∃ x, gE G n N NF = x := ⟨_, rfl⟩
  rw [hE'] at HR hE ⊢
  have t1 : (E != 0) = true := by simpa using hE
  obtain ⟨a1, a2, a3, a4, bb⟩ := box4 w (.slice ta N tc) (.slice fa NF fc) (.int .i64 n) (.int .i64 G.num) (.int .i64 G.qt) (.slice G.sa G.sN G.sc) mvv 30 30 3 56
  have HB := Lib.hid bb
  have HM := Lib.hid (hms.below bb)
  have k0 := a1.cell
  have k1 := a2.cell
  have k2 := a3.cell
  have k3 := a4.cell 0 _ rfl
  have k4 := a4.cell 1 _ rfl
  have k5 := a4.cell 2 _ rfl
  have k6 := a4.cell 3 _ rfl
  clear hE hE' bb a1 a2 a3 a4 hms hsh
  go_enter Tryz.func35, Tryz.ntmps35
  go_wp2_with (go_at_call 75; refine (HR.out _ HM.out).mono ?_; rintro e w1 ⟨rfl, b1⟩; have HB := Lib.hid (chain HB.out b1); clear b1 k0 k1 k2 k3 k4 k5 k6)
  go_ret
  exact ⟨rfl, HB.out⟩
end
end Bl
end Go.Proofs.YtbmglemjfodfhaaGreat
namespace Go.Proofs.YtbmglemjfodfhaaGreat
open Go.RowKit
namespace Bl
open Bk Fr Pt Kd Bu
end Bl
end Go.Proofs.YtbmglemjfodfhaaGreat
namespace Go.Proofs.YtbmglemjfodfhaaGreat
open Go.RowKit Go.ChangeShapes Go.WideShapes
namespace Bl
open Bk Kd
theorem open_group {H : Type} {enc : TypeId × Value → H} {P : Program} {w : World} {base : Nat} {held : Bool} {tg ts tm tbyte : TypeId} {n0 n1 n2 n3 : Field} {te tb e tp ep : TypeId} {m0 m1 m2 m3 m4 m5 m6 f0 f1 g0 g1 : Field} {fuel : Nat} {x : DataW H × List MemPlace} {cs : Array Value}
    (hg : P.underlying tg = some (.struct #[n0, n1, n2, n3])) (cg : P.cellsOf tg = 4) (og : n0.offset = 0 ∧ n1.offset = 1 ∧ n2.offset = 2 ∧ n3.offset = 3)
    (kg : P.cellsOf n0.type = 1 ∧ P.cellsOf n1.type = 1 ∧ P.cellsOf n2.type = 1 ∧ P.cellsOf n3.type = 1) (ig0 : P.underlying n0.type = some (.int .i64)) (ig1 : P.underlying n1.type = some (.int .i64)) (hs2 : n2.type = ts) (hts : P.underlying ts = some (.slice tbyte)) (hbyte : P.underlying tbyte = some (.int .u8)) (cbyte : P.cellsOf tbyte = 1) (hs3 : n3.type = tm)
    (hs : P.underlying tm = some (.slice te)) (hm : P.underlying te = some (.struct #[m0, m1, m2, m3, m4, m5, m6])) (cm : P.cellsOf te = 7)
    (om : m0.offset = 0 ∧ m1.offset = 1 ∧ m2.offset = 2 ∧ m3.offset = 3 ∧ m4.offset = 4 ∧ m5.offset = 5 ∧ m6.offset = 6)
    (km : P.cellsOf m0.type = 1 ∧ P.cellsOf m1.type = 1 ∧ P.cellsOf m2.type = 1 ∧ P.cellsOf m3.type = 1 ∧ P.cellsOf m4.type = 1 ∧ P.cellsOf m5.type = 1 ∧ P.cellsOf m6.type = 1)
    (im : P.underlying m0.type = some (.int .i64) ∧ P.underlying m1.type = some (.int .i64) ∧ P.underlying m2.type = some (.int .i64) ∧ P.underlying m3.type = some (.int .i64) ∧ P.underlying m4.type = some (.int .i64) ∧ P.underlying m5.type = some (.int .i64)) (hb : m6.type = tb)
    (ht : P.underlying tb = some (.slice e)) (he : P.underlying e = some (.struct #[f0, f1])) (ce : P.cellsOf e = 2) (o0 : f0.offset = 0) (o1 : f1.offset = 1) (c0 : P.cellsOf f0.type = 1) (c1 : P.cellsOf f1.type = 1)
    (i0 : P.underlying f0.type = some (.int .i64)) (hp : f1.type = tp)
    (hpt : P.underlying tp = some (.slice ep)) (hpe : P.underlying ep = some (.struct #[g0, g1])) (pe : P.cellsOf ep = 2) (p0 : g0.offset = 0) (p1 : g1.offset = 1) (q0 : P.cellsOf g0.type = 1) (q1 : P.cellsOf g1.type = 1)
    (j0 : P.underlying g0.type = some (.int .i64)) (j1 : P.underlying g1.type = some (.int .i64))
    (h : DataW.trod enc P w base (fun _ => true) held fuel tg (Value.agg cs).cells.toList = some x) : ∃ (G : GB) (mvv : Value), Value.agg cs = gv G mvv ∧ G.raw w mvv := by
  subst hs2 hs3
  obtain ⟨xs, k, _, _, hl, hxl, hf⟩ := DataW.trod_struct hg h
  have hcs : (Value.agg cs).cells = cs := rfl
  rw [hcs] at hl hf
  rw [cg] at hl
  obtain ⟨z0, z1, z2, z3⟩ := og
  obtain ⟨k0, k1, k2, k3⟩ := kg
  match hq : cs.toList, hl with
  | [v0, v1, v2, v3], _ =>
    match xs, hxl with
    | [y0, y1, y2, y3], _ =>
      have t0 := hf 0 n0 rfl
      have t1 := hf 1 n1 rfl
      have t2 := hf 2 n2 rfl
      have t3 := hf 3 n3 rfl
      rw [hq] at t0 t1 t2 t3
      simp [z0, z1, z2, z3, k0, k1, k2, k3] at t0 t1 t2 t3
      obtain ⟨a0, e0, _⟩ := DataW.trod_int ig0 t0
      obtain ⟨a1, e1, _⟩ := DataW.trod_int ig1 t1
      obtain ⟨m, Ms, vb, hgs⟩ := open_gsl hs hm cm om km im hb ht he ce o0 o1 c0 c1 i0 hp hpt hpe pe p0 p1 q0 q1 j0 j1 t3
      obtain ⟨sa, sN, sc, zs, hv2, hrow⟩ : ∃ a n c zs, v2 = .slice a n c ∧ IsRow .u8 w a n c zs := by
        rcases open_ints hts hbyte cbyte t2 with ⟨hc2, _⟩ | ⟨x, l, c, zs, hc2, _, hl2, hm2, hz, _, hcell, hwz⟩
        · have hv : v2 = .slice none 0 0 := by simpa using hc2
          exact ⟨none, 0, 0, [], hv, .inl ⟨rfl, rfl, rfl, rfl⟩⟩
        · have hv : v2 = .slice (some x) l c := by simpa using hc2
          exact ⟨some x, l, c, zs, hv, .inr ⟨_, rfl, hl2, hm2, by simpa using hz, hcell, hwz⟩⟩
      refine ⟨⟨a0, a1, sa, sN, sc, fun i => zs.getD i 0, m, Ms, vb⟩, v3, ?_, hrow.sl.1, hgs⟩
      have : cs = #[v0, v1, v2, v3] := Array.toList_inj.1 hq
      rw [this]
      simp at e0 e1
      rw [e0, e1, hv2]
end Bl
end Go.Proofs.YtbmglemjfodfhaaGreat
