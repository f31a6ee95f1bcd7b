/- build.Group. | BuildParts. | A parameter that is a group. -/
import Derived.Test.YtbmglemjfodfhaaGreatMgBl2
import Derived.Test.YtbmglemjfodfhaaGreatMgGr2
import Derived.Test.YtbmglemjfodfhaaGreatMgGr3
import Derived.Test.YtbmglemjfodfhaaGreatMgPa1
import Derived.Test.YtbmglemjfodfhaaGreatMgPairIn
import Derived.Test.YtbmglemjfodfhaaGreatMgPick
import Derived.Test.YtbmglemjfodfhaaGreatMgRegSt
import Derived.Test.YtbmglemjfodfhaaGreatMgScb
import Derived.Deep.DeepCutAuto
import Derived.Deep.RegionHeld3
import Derived.Deep.RegionWith
import Derived.Defers
import Derived.Sort.CutIn
set_option linter.unusedVariables false
set_option linter.unusedSimpArgs false

namespace Go.Proofs.YtbmglemjfodfhaaGreat
open Go.RowKit Go.Shelf
attribute [local go_sem] Oper.semAt_some
namespace Bl
open Bk Fr Pt Kd Bu

theorem places_seq (v : Value) (a : Option Addr) (b o m c : Nat) (Ms : Nat → MB) (hv : v = .slice a m c) (ha : 0 < m → a = some ⟨b, o, none⟩) (hmc : m ≤ c) (hcm : c ≤ maxLen) (mm : Nat) (hm : 1 ≤ mm) (B Bl : Nat) (bl : B ≤ Bl) (hbB : b ≠ Bl) (w : World) (hb : b < w.heap.size) (h1 : Boxed w Bl 54 v) (hG : ∀ j, j < m → w.cell? ⟨b, o + j * 7, none⟩ = some (.int .i64 (Ms j).ad)) :
    SeqB mm Tryz.prog 124 #[.pointer (some ⟨Bl, 0, none⟩)] (encG b o Ms m) (KpM B b) (fun ys => ys = List.finRange 33) (fun pre => pre <+: List.finRange 33) 33 Bl w := fun l J Jx W hW hl hlW hJ hJx hJB hY h0 =>
  places1_in v a b o m c Ms hv ha hmc hcm mm hm l B Bl bl (by have := h1.lt; omega) (by omega) hbB J Jx W (fun pre A C h hg => hJ pre A C none h hg (fun _ e => by cases e)) hJB hY h0 (h1.kept (grown_of_below hW none) (by simp)) (fun j hj => (hW.cell (p := ⟨b, o + j * 7, none⟩) (World.block_lt_of_cell? _ _ (hG j hj))).trans (hG j hj))
/-- the quantiser and the picture behind some addresses. -/
def gS (n num : Int) (N NF : Nat) (F f : Nat → Int) (qt : Int) (Ms : Nat → MB) (m : Nat) (pre : List (Fin 33)) : Int × (Nat → Int) :=
  pre.foldl (fun s x => ((if hitB Ms m (nx Ms m x.val) x.val = true then (if 0 < (Ms (nx Ms m x.val)).qt then (Ms (nx Ms m x.val)).qt else s.1) else s.1),
    if hitB Ms m (nx Ms m x.val) x.val = true then macF (Ms (nx Ms m x.val)) n num ((x.val : Int) + 1) N NF (if hitB Ms m (nx Ms m x.val) x.val = true then (if 0 < (Ms (nx Ms m x.val)).qt then (Ms (nx Ms m x.val)).qt else s.1) else s.1) F s.2 else Pa.copG n num ((x.val : Int) + 1) N NF F s.2)) (qt, f)
theorem gS_hit {n num : Int} {N NF : Nat} {F f : Nat → Int} {qt : Int} {Ms : Nat → MB} {m : Nat} {pre : List (Fin 33)} {x : Fin 33} (h : hitB Ms m (nx Ms m x.val) x.val = true) :
    gS n num N NF F f qt Ms m (pre ++ [x]) = ((if 0 < (Ms (nx Ms m x.val)).qt then (Ms (nx Ms m x.val)).qt else (gS n num N NF F f qt Ms m pre).1), macF (Ms (nx Ms m x.val)) n num ((x.val : Int) + 1) N NF (if 0 < (Ms (nx Ms m x.val)).qt then (Ms (nx Ms m x.val)).qt else (gS n num N NF F f qt Ms m pre).1) F (gS n num N NF F f qt Ms m pre).2) := by
  unfold gS
  rw [List.foldl_append]
  simp only [List.foldl_cons, List.foldl_nil, h, if_true]
theorem gS_miss {n num : Int} {N NF : Nat} {F f : Nat → Int} {qt : Int} {Ms : Nat → MB} {m : Nat} {pre : List (Fin 33)} {x : Fin 33} (h : hitB Ms m (nx Ms m x.val) x.val = false) :
    gS n num N NF F f qt Ms m (pre ++ [x]) = ((gS n num N NF F f qt Ms m pre).1, Pa.copG n num ((x.val : Int) + 1) N NF F (gS n num N NF F f qt Ms m pre).2) := by
  unfold gS
  rw [List.foldl_append]
  simp only [List.foldl_cons, List.foldl_nil, h, if_false, Bool.false_eq_true]
theorem gS_all (n num : Int) (N NF : Nat) (F f : Nat → Int) (qt : Int) (Ms : Nat → MB) (m : Nat) : gS n num N NF F f qt Ms m (List.finRange 33) = (gQ qt Ms m 33, gP n num N NF F f qt Ms m 33) := by
  have e : ∀ k (hk : k ≤ 33), gS n num N NF F f qt Ms m ((List.finRange 33).take k) = (gQ qt Ms m k, gP n num N NF F f qt Ms m k) := by
    intro k
    induction k with
    | zero => intro _; rfl
    | succ k ih =>
      intro hk
      have e1 : (List.finRange 33)[k]'(by simp; omega) = (⟨k, by omega⟩ : Fin 33) := by simp
      rw [List.take_succ_eq_append_getElem (by simp; omega), e1]
      by_cases h : hitB Ms m (nx Ms m k) k = true
      · rw [gS_hit (x := ⟨k, by omega⟩) h, ih (by omega), gQ_hit h, gP_hit h, gQ_hit h]
      · have h : hitB Ms m (nx Ms m k) k = false := by simpa using h
        rw [gS_miss (x := ⟨k, by omega⟩) h, ih (by omega), gQ_miss h, gP_miss h]
  have := e 33 (by omega)
  rwa [List.take_of_length_le (by simp)] at this
theorem grown_by2 {w A C : World} {row : Option Nat} {x : Nat} (h : w.grownBy A row) (hg : A.grownBy C (some x)) (hx : w.heap.size ≤ x) : w.grownBy C row :=
  ⟨hg.os.trans h.os, hg.tape.trans h.tape, hg.output.trans h.output, Nat.le_trans h.size hg.size, fun i hi hne => (hg.block i (Nat.lt_of_lt_of_le hi h.size) (fun e => by have := Option.some.inj e; omega)).trans (h.block i hi hne)⟩
/-- what lies from B on, and block b, is as it was. -/
def KpB (B b : Nat) (V W : World) : Prop := V.heap.size ≤ W.heap.size ∧ ∀ i, (B ≤ i ∨ i = b) → i < V.heap.size → W.heap[i]? = V.heap[i]?
theorem kpB_below {B b : Nat} {V W : World} (h : Below V.heap.size V W) : KpB B b V W := ⟨h.size, fun i _ hi => h.block i hi⟩
theorem kpB_some {B b x : Nat} {V W : World} (h : V.grownBy W (some x)) (hx : x < B) (hb : b ≠ x) : KpB B b V W := ⟨h.size, fun i hi hlt => h.block i hlt (fun e => by have := Option.some.inj e; omega)⟩
theorem kpB_t {B b : Nat} {X Y Z : World} (h : KpB B b X Y) (k : KpB B b Y Z) : KpB B b X Z := ⟨Nat.le_trans h.1 k.1, fun i hi hlt => (k.2 i hi (Nat.lt_of_lt_of_le hlt h.1)).trans (h.2 i hi hlt)⟩
theorem KpB.kpM {B b l : Nat} {V W : World} (h : KpB B b V W) : KpM B b l V W := ⟨h.1, fun i hi _ o ho => (h.2 i hi (Array.getElem?_eq_some_iff.1 ho).1).trans ho⟩
theorem KpB.keeps {B b C : Nat} {V W : World} (h : KpB B b V W) (hC : B ≤ C) : KeepsFrom C V W := ⟨h.1, fun i o hi ho _ => (h.2 i (.inl (by omega)) (Array.getElem?_eq_some_iff.1 ho).1).trans ho⟩
theorem box4 (w : World) (v1 v2 v3 v4 v5 v6 v7 : Value) (t1 t2 t3 t4 : TypeId) :
    Boxed ((((w.alloc (.cells #[v1] t1)).alloc (.cells #[v2] t2)).alloc (.cells #[v3] t3)).alloc (.cells #[v4, v5, v6, v7] t4)) w.heap.size t1 v1
    ∧ Boxed ((((w.alloc (.cells #[v1] t1)).alloc (.cells #[v2] t2)).alloc (.cells #[v3] t3)).alloc (.cells #[v4, v5, v6, v7] t4)) (w.heap.size + 1) t2 v2
    ∧ Boxed ((((w.alloc (.cells #[v1] t1)).alloc (.cells #[v2] t2)).alloc (.cells #[v3] t3)).alloc (.cells #[v4, v5, v6, v7] t4)) (w.heap.size + 2) t3 v3
    ∧ At ((((w.alloc (.cells #[v1] t1)).alloc (.cells #[v2] t2)).alloc (.cells #[v3] t3)).alloc (.cells #[v4, v5, v6, v7] t4)) (w.heap.size + 3) #[v4, v5, v6, v7] t4
    ∧ Below w.heap.size w ((((w.alloc (.cells #[v1] t1)).alloc (.cells #[v2] t2)).alloc (.cells #[v3] t3)).alloc (.cells #[v4, v5, v6, v7] t4)) := by
  have e1 := ((((Boxed.new w t1 v1).alloc (.cells #[v2] t2)).alloc (.cells #[v3] t3)).alloc (.cells #[v4, v5, v6, v7] t4))
  have e2 := (((Boxed.new (w.alloc (.cells #[v1] t1)) t2 v2).alloc (.cells #[v3] t3)).alloc (.cells #[v4, v5, v6, v7] t4))
  have e3 := ((Boxed.new ((w.alloc (.cells #[v1] t1)).alloc (.cells #[v2] t2)) t3 v3).alloc (.cells #[v4, v5, v6, v7] t4))
  have e4 := At.new (((w.alloc (.cells #[v1] t1)).alloc (.cells #[v2] t2)).alloc (.cells #[v3] t3)) #[v4, v5, v6, v7] t4
  simp only [World.size_alloc] at e2 e3 e4
  exact ⟨e1, e2, e3, e4, ((((Below.refl w.heap.size w).alloc (Nat.le_refl _) _).alloc (by simp) _).alloc (by simp; omega) _).alloc (by simp; omega) _⟩
theorem ahead_some (a : Option Addr) (N c : Nat) (n : Int) (w : World) (h0 : 0 < N) :
    Calls Tryz.prog 46 #[.slice a N c, .int .i64 n] w fun e w' => e = .returned (.slice a N c) ∧ w = w' := by
  have t1 : ((N : Int) == 0) = false := by simp; omega
  clear h0
  go_enter Tryz.func46, Tryz.ntmps46
  go_wp2_with fail
  go_ret
  exact ⟨rfl, rfl⟩
/-- the worlds at the stages of Group's first statement. -/
def st4 (w : World) (p : Nat) (v : Value) (q : Int) : Nat → World
  | 0 => w.drew
  | 1 => w.drew.alloc (.cells #[.int .i64 0] 3)
  | 2 => (w.drew.alloc (.cells #[.int .i64 0] 3)).setCell ⟨p, 0, none⟩ v
  | _ => ((w.drew.alloc (.cells #[.int .i64 0] 3)).setCell ⟨p, 0, none⟩ v).setCell ⟨w.heap.size, 0, none⟩ (.int .i64 q)
theorem st4_box {w : World} {p b : Nat} {v x : Value} {q : Int} {t : TypeId} (h : Boxed w b t x) (n : Nat) (hn : n ≤ 2) (h1 : 2 ≤ n → p ≠ b) : ∀ k, k ≤ n → Boxed (st4 w p v q k) b t x
  | 0, _ => h.kept (grown_of_below (Below.refl w.heap.size w).drew none) (by simp)
  | 1, _ => (h.kept (grown_of_below (Below.refl w.heap.size w).drew none) (by simp)).alloc _
  | 2, hk => ((h.kept (grown_of_below (Below.refl w.heap.size w).drew none) (by simp)).alloc (.cells #[.int .i64 0] 3)).kept (Kd.grown_cell _ _ _ _) (fun e => h1 hk (Option.some.inj e).symm)
  | k + 3, hk => absurd hk (by omega)
theorem st4_at {w : World} {p b : Nat} {v : Value} {q : Int} {vs : Array Value} {t : TypeId} (h : At w b vs t) (h1 : p ≠ b) : ∀ k, k ≤ 2 → At (st4 w p v q k) b vs t
  | 0, _ => h.below (Below.refl w.heap.size w).drew
  | 1, _ => (h.below (Below.refl w.heap.size w).drew).below ((Below.refl _ _).alloc (Nat.le_refl _) _)
  | 2, _ => ((h.below (Below.refl w.heap.size w).drew).below ((Below.refl _ _).alloc (Nat.le_refl _) (.cells #[.int .i64 0] 3))).kept (Kd.grown_cell _ _ _ _) (fun e => h1 (Option.some.inj e).symm)
  | k + 3, hk => absurd hk (by omega)
section
set_option maxRecDepth 100000
set_option maxHeartbeats 8000000
set_option linter.unusedVariables false
theorem group_no (G : GB) (mvv : Value) (ta fa : Option Addr) (N tc NF fc : Nat) (n : Int) (w : World) (hms : Gsl w mvv G.m G.Ms G.vb) (hsh : ∀ j, j < G.m → Short (G.Ms j)) (hE : gE G n N NF ≠ 0) :
    Calls Tryz.prog 35 #[.slice ta N tc, .slice fa NF fc, .int .i64 n, gv G mvv] w fun e w' => e = .returned (.int .i64 (gE G n N NF)) ∧ Below w.heap.size w w' := by
  have HR := Lib.hid (fun V h => refuses_any G mvv ta fa N tc NF fc n V h hsh)
  obtain ⟨E, hE'⟩ : ∃ x, gE G n N NF = x := ⟨_, rfl⟩
  rw [hE'] at HR hE ⊢
  have t1 : (E != 0) = true := by simpa using hE
  obtain ⟨a1, a2, a3, a4, bb⟩ := box4 w (.slice ta N tc) (.slice fa NF fc) (.int .i64 n) (.int .i64 G.num) (.int .i64 G.qt) (.slice G.sa G.sN G.sc) mvv 30 30 3 56
  have HB := Lib.hid bb
  have HM := Lib.hid (hms.below bb)
  have k0 := a1.cell
  have k1 := a2.cell
  have k2 := a3.cell
  have k3 := a4.cell 0 _ rfl
  have k4 := a4.cell 1 _ rfl
  have k5 := a4.cell 2 _ rfl
  have k6 := a4.cell 3 _ rfl
  clear hE hE' bb a1 a2 a3 a4 hms hsh
  go_enter Tryz.func35, Tryz.ntmps35
  go_wp2_with (go_at_call 75; refine (HR.out _ HM.out).mono ?_; rintro e w1 ⟨rfl, b1⟩; have HB := Lib.hid (chain HB.out b1); clear b1 k0 k1 k2 k3 k4 k5 k6)
  go_ret
  exact ⟨rfl, HB.out⟩
theorem group_yes (G : GB) (ma : Option Addr) (mc : Nat) (bt R tc : Nat) (fa : Option Addr) (N NF fc : Nat) (f F : Nat → Int) (n : Int) (w : World) (hms : Gsl w (.slice ma G.m mc) G.m G.Ms G.vb) (hsh : ∀ j, j < G.m → Short (G.Ms j)) (hE : gE G n N NF = 0)
    (hA : Arr w .u8 bt R f) (hR : N ≤ R) (hNc : N ≤ tc) (h0 : 0 < R) (hs : Sl .u8 w (.slice fa NF fc) NF F) (hf : ∀ i, 0 ≤ F i ∧ F i ≤ 255) (hne : ∀ x, fa = some x → x.block ≠ bt) (hNF : 0 < NF) (hG : ∀ V, w.grownBy V (some bt) → Gsl V (.slice ma G.m mc) G.m G.Ms G.vb) (hbm : 0 < G.m → ∀ x, ma = some x → x.block ≠ bt) :
    Calls Tryz.prog 35 #[.slice (some ⟨bt, 0, none⟩) N tc, .slice fa NF fc, .int .i64 n, gv G (.slice ma G.m mc)] w fun e w' => e = .returned (.int .i64 0) ∧ Arr w' .u8 bt R (gP n G.num N (aN NF n) (aF NF F) f G.qt G.Ms G.m 33) ∧ w.grownBy w' (some bt) := by
  have HR := Lib.hid (fun V h => refuses_any G (.slice ma G.m mc) (some ⟨bt, 0, none⟩) fa N tc NF fc n V h hsh)
  rw [hE] at HR
  rw [show aN NF n = NF from if_neg (by omega), show aF NF F = F from if_neg (by omega)]
  have HH := Lib.hid (fun V => ahead_some fa NF fc n V hNF)
  obtain ⟨a1, a2, a3, a4, bb⟩ := box4 w (.slice (some ⟨bt, 0, none⟩) N tc) (.slice fa NF fc) (.int .i64 n) (.int .i64 G.num) (.int .i64 G.qt) (.slice G.sa G.sN G.sc) (.slice ma G.m mc) 30 30 3 56
  have hbt := hA.lt h0
  have A1 := Lib.hid a1
  have A2 := Lib.hid a2
  have A3 := Lib.hid a3
  have A4 := Lib.hid a4
  have HB := Lib.hid bb
  have HM := Lib.hid (hms.below bb)
  have HS := Lib.hid (hs.below bb)
  have k0 := a1.cell
  have k1 := a2.cell
  have k2 := a3.cell
  have k3 := a4.cell 0 _ rfl
  have k4 := a4.cell 1 _ rfl
  have k5 := a4.cell 2 _ rfl
  have k6 := a4.cell 3 _ rfl
  have z0 : w.heap.size + 4 ≤ _ := Nat.le_of_lt_succ (Nat.lt_succ_of_le (show w.heap.size + 4 ≤ ((((w.alloc (.cells #[.slice (some ⟨bt, 0, none⟩) N tc] 30)).alloc (.cells #[.slice fa NF fc] 30)).alloc (.cells #[.int .i64 n] 3)).alloc (.cells #[.int .i64 G.num, .int .i64 G.qt, .slice G.sa G.sN G.sc, .slice ma G.m mc] 56)).heap.size by simp))
  clear bb a1 a2 a3 a4
  refine (callsIn_wide (n := 12)).1 ?_
  refine callsIn_of_wp_marks Tryz.func35 rfl trivial ?_ rfl
  simp only [Tryz.ntmps35, List.size_toArray, List.length_cons, List.length_nil, Nat.reduceAdd, Nat.reduceSub, Array.replicate_succ, Array.replicate_zero, List.push_toArray, List.append_toArray, List.nil_append, List.cons_append]
  refine wpIn_wide.2 ?_
  go_upto_region 1 with fail
  generalize (((w.alloc (.cells #[.slice (some ⟨bt, 0, none⟩) N tc] 30)).alloc (.cells #[.slice fa NF fc] 30)).alloc (.cells #[.int .i64 n] 3)).alloc (.cells #[.int .i64 G.num, .int .i64 G.qt, .slice G.sa G.sN G.sc, .slice ma G.m mc] 56) = W0 at *
  go_upto_region 4 with (go_at_call 75; refine (HR.out _ HM.out).mono ?_; rintro e w1 ⟨rfl, b1⟩; have A1 := Lib.hid (A1.out.kept (grown_of_below b1 none) (by simp)); have A2 := Lib.hid (A2.out.kept (grown_of_below b1 none) (by simp)); have A3 := Lib.hid (A3.out.kept (grown_of_below b1 none) (by simp)); have A4 := Lib.hid (A4.out.below b1); have HB := Lib.hid (chain HB.out b1); have HM := Lib.hid (HM.out.below b1); have HS := Lib.hid (HS.out.below b1); have z0 := Nat.le_trans z0 b1.size; clear b1 k0 k1 k2 k3 k4 k5 k6)
  have k1 := A2.out.cell
  have k2 := A3.out.cell
  have k4 := A4.out.cell 1 _ rfl
  have y1 := A2.out.frozen
  clear k1 k2 k4 y1
  refine (wpIn_wide (n := 12)).1 ?_
  refine regionIn_stage 5 [1, 1, 1, 2, 2] (st4 w1 (w.heap.size + 1) (.slice fa NF fc) G.qt) (by kernel_rfl) (by kernel_rfl) rfl ?_
  simp only [List.take_succ_cons, List.take_zero, List.drop_succ_cons, List.drop_zero]
  have g1 : ∀ t, t ≤ 1 → (st4 w1 (w.heap.size + 1) (.slice fa NF fc) G.qt t).cell? ⟨w.heap.size + 1, 0, none⟩ = some (.slice fa NF fc) := fun t ht => (st4_box A2.out 1 (by omega) (fun h => by omega) t ht).cell
  have g2 : ∀ t, t ≤ 1 → (st4 w1 (w.heap.size + 1) (.slice fa NF fc) G.qt t).cell? ⟨w.heap.size + 1 + 1, 0, none⟩ = some (.int .i64 n) := fun t ht => (st4_box A3.out 1 (by omega) (fun h => by omega) t ht).cell
  have g4 : ∀ t, t ≤ 2 → (st4 w1 (w.heap.size + 1) (.slice fa NF fc) G.qt t).cell? ⟨w.heap.size + 1 + 1 + 1, 1, none⟩ = some (.int .i64 G.qt) := fun t ht => (st4_at A4.out (by omega) t ht).cell 1 _ rfl
  refine stage_step (.slice fa NF fc) rfl (fun t ht => (by have := g1 t ht; go_simp)) ?_
  simp only [Act.put, List.setIfInBounds_toArray, List.set_cons_zero, List.set_cons_succ]
  refine stage_step (.int .i64 n) rfl (fun t ht => (by have := g2 t ht; go_simp)) ?_
  simp only [Act.put, List.setIfInBounds_toArray, List.set_cons_zero, List.set_cons_succ]
  refine stage_step (.slice fa NF fc) rfl (fun t ht => (by go_simp; exact (HH.out _).mono (by rintro e w' ⟨rfl, rfl⟩; exact ⟨rfl, rfl⟩))) ?_
  simp only [Act.put, List.setIfInBounds_toArray, List.set_cons_zero, List.set_cons_succ]
  refine stage_step (.pointer (some ⟨w.heap.size + 1 + 1 + 1, 1, none⟩)) rfl (fun t ht => (by go_simp)) ?_
  simp only [Act.put, List.setIfInBounds_toArray, List.set_cons_zero, List.set_cons_succ]
  refine stage_step (.int .i64 G.qt) rfl (fun t ht => (by have := g4 t ht; go_simp)) ?_
  simp only [Act.put, List.setIfInBounds_toArray, List.set_cons_zero, List.set_cons_succ]
  refine tail_step rfl ⟨fun _ _ => trivial, ?_⟩
  go_simp
  refine ⟨rfl, ?_⟩
  rw [show (st4 w1 (w.heap.size + 1) (.slice fa NF fc) G.qt 0).heap.size = w1.heap.size from rfl]
  refine tail_step rfl ⟨fun _ _ => trivial, ?_⟩
  have q1 : (st4 w1 (w.heap.size + 1) (.slice fa NF fc) G.qt 1).cell? ⟨w.heap.size + 1, 0, none⟩ = some (.slice fa NF fc) := g1 1 (by omega)
  have u1 : (st4 w1 (w.heap.size + 1) (.slice fa NF fc) G.qt 1).frozen? ⟨w.heap.size + 1, 0, none⟩ = false := (st4_box (v := .slice fa NF fc) (p := w.heap.size + 1) (q := G.qt) A2.out 1 (by omega) (fun h => by omega) 1 (by omega)).frozen
  go_simp
  refine ⟨rfl, ?_⟩
  have bq : Boxed (st4 w1 (w.heap.size + 1) (.slice fa NF fc) G.qt 2) w1.heap.size 3 (.int .i64 0) := (Boxed.new w1.drew 3 (.int .i64 0)).kept (Kd.grown_cell _ _ _ _) (fun e => by have h : w1.heap.size = w.heap.size + 1 := Option.some.inj e; omega)
  refine tail_step rfl ⟨fun _ _ => trivial, ?_⟩
  have q2 := bq.cell
  have u2 := bq.frozen
  go_simp
  refine ⟨rfl, ?_⟩
  show onlyN _ Exit.normal _ _
  simp only [onlyN]
  have d1 : Boxed (st4 w1 (w.heap.size + 1) (.slice fa NF fc) G.qt 3) w.heap.size 30 (.slice (some ⟨bt, 0, none⟩) N tc) := (st4_box (v := .slice fa NF fc) (p := w.heap.size + 1) (q := G.qt) A1.out 2 (by omega) (fun _ => by omega) 2 (by omega)).kept (Kd.grown_cell _ _ _ _) (fun e => by have := Option.some.inj e; omega)
  have d2 : Boxed (st4 w1 (w.heap.size + 1) (.slice fa NF fc) G.qt 3) (w.heap.size + 1) 30 (.slice fa NF fc) := (Boxed.set (.slice fa NF fc) (st4_box (v := .slice fa NF fc) (p := w.heap.size + 1) (q := G.qt) A2.out 1 (by omega) (fun h => by omega) 1 (by omega))).kept (Kd.grown_cell _ _ _ _) (fun e => by have := Option.some.inj e; omega)
  have d3 : Boxed (st4 w1 (w.heap.size + 1) (.slice fa NF fc) G.qt 3) (w.heap.size + 2) 3 (.int .i64 n) := (st4_box (v := .slice fa NF fc) (p := w.heap.size + 1) (q := G.qt) A3.out 2 (by omega) (fun _ => by omega) 2 (by omega)).kept (Kd.grown_cell _ _ _ _) (fun e => by have := Option.some.inj e; omega)
  have d4 : At (st4 w1 (w.heap.size + 1) (.slice fa NF fc) G.qt 3) (w.heap.size + 3) #[.int .i64 G.num, .int .i64 G.qt, .slice G.sa G.sN G.sc, .slice ma G.m mc] 56 := (st4_at (v := .slice fa NF fc) (p := w.heap.size + 1) (q := G.qt) A4.out (by omega) 2 (by omega)).kept (Kd.grown_cell _ _ _ _) (fun e => by have := Option.some.inj e; omega)
  have d5 : Boxed (st4 w1 (w.heap.size + 1) (.slice fa NF fc) G.qt 3) w1.heap.size 3 (.int .i64 G.qt) := bq.set _
  have d6 : Below w.heap.size w (st4 w1 (w.heap.size + 1) (.slice fa NF fc) G.qt 3) := ((HB.out.drew.alloc HB.out.size (.cells #[.int .i64 0] 3)).setCell (p := ⟨w.heap.size + 1, 0, none⟩) (Nat.le_succ _) (.slice fa NF fc)).setCell (p := ⟨w1.heap.size, 0, none⟩) HB.out.size (.int .i64 G.qt)
  have z5 : w1.heap.size < (st4 w1 (w.heap.size + 1) (.slice fa NF fc) G.qt 3).heap.size := d5.lt
  generalize st4 w1 (w.heap.size + 1) (.slice fa NF fc) G.qt 3 = W5 at *
  clear g1 g2 g4 q1 q2 u1 u2 bq A1 A2 A3 A4 HB HM HS HR HH
  have c7 := d4.cell 3 _ rfl
  go_wp2_with (go_at_call 76; refine ((callsIn_wide (n := 12)).1 (places_in _ ma G.m mc rfl 12 _)).mono ?_; rintro e w6 ⟨rfl, rfl⟩)
  have b6 := (Below.refl W5.heap.size W5).alloc (Nat.le_refl _) (.cells #[.slice ma G.m mc] 54)
  have e1 := d1.kept (grown_of_below b6 none) (by simp)
  have e2 := d2.kept (grown_of_below b6 none) (by simp)
  have e3 := d3.kept (grown_of_below b6 none) (by simp)
  have e4 := d4.below b6
  have e5 := d5.kept (grown_of_below b6 none) (by simp)
  have e6 := chain d6 b6
  have eL := Boxed.new W5 54 (.slice ma G.m mc)
  have z6 : W5.heap.size < (W5.alloc (.cells #[.slice ma G.m mc] 54)).heap.size := by simp
  generalize W5.alloc (.cells #[.slice ma G.m mc] 54) = W6 at *
  clear c7 d1 d2 d3 d4 d5 b6
  obtain ⟨b, o, hbo, hbl, hbt2, hcell⟩ : ∃ b o, (0 < G.m → ma = some ⟨b, o, none⟩) ∧ b ≤ w.heap.size ∧ b ≠ bt ∧ ∀ j, j < G.m → W6.cell? ⟨b, o + j * 7, none⟩ = some (.int .i64 (G.Ms j).ad) := by
    obtain ⟨a', c', ev, p1, p2, p3⟩ := hms.below e6
    cases ev
    rcases p3 with h | ⟨b, o, rfl, hI⟩
    · exact ⟨w.heap.size, 0, fun h2 => by omega, Nat.le_refl _, by omega, fun j hj => by omega⟩
    · by_cases h : G.m = 0
      · exact ⟨w.heap.size, 0, fun h2 => by omega, Nat.le_refl _, by omega, fun j hj => by omega⟩
      · refine ⟨b, o, fun _ => rfl, ?_, hbm (by omega) _ rfl, fun j hj => (hI j hj).1 0 (by omega)⟩
        obtain ⟨a2, c2, ev2, q1, q2, q3⟩ := hms
        cases ev2
        rcases q3 with h3 | ⟨b3, o3, e3, hI3⟩
        · omega
        · cases e3
          have := World.block_lt_of_cell? _ _ ((hI3 0 (by omega)).1 0 (by omega))
          simp at this
          omega
  have hmc : G.m ≤ mc ∧ mc ≤ maxLen := by
    obtain ⟨a', c', ev, p1, p2, p3⟩ := hms
    cases ev
    exact ⟨p1, p2⟩
  refine (wpIn_wide (n := 12)).1 ?_
  refine rangeB (gf := 124) (lb := #[.pointer (some ⟨W5.heap.size, 0, none⟩)]) rfl (enters_of Tryz.func124 (by kernel_rfl) rfl)
    (places_seq _ ma b o G.m mc G.Ms rfl hbo hmc.1 hmc.2 11 (by decide) W5.heap.size W5.heap.size (Nat.le_refl _) (by omega) W6 (by omega) eL hcell) (by omega) kpM_t kpM_l (fun _ => rfl)
    (fun pre V => Arr V .u8 bt R (gS n G.num N NF F f G.qt G.Ms G.m pre).2 ∧ Boxed V w1.heap.size 3 (.int .i64 (gS n G.num N NF F f G.qt G.Ms G.m pre).1) ∧ Boxed V w.heap.size 30 (.slice (some ⟨bt, 0, none⟩) N tc) ∧ Boxed V (w.heap.size + 1) 30 (.slice fa NF fc) ∧ Boxed V (w.heap.size + 2) 3 (.int .i64 n) ∧ At V (w.heap.size + 3) #[.int .i64 G.num, .int .i64 G.qt, .slice G.sa G.sN G.sc, .slice ma G.m mc] 56 ∧ w.grownBy V (some bt))
    (fun c pre V => False)
    ?own
    (fun c => fun s A C row h hg hr => h.elim)
    ?keep
    ⟨hA.below e6 hbt, e5, e1, e2, e3, e4, grown_of_below e6 _⟩
    (fun x a' V => a' = { tmps := #[.slice (some ⟨bt, 0, none⟩) N tc, .slice fa NF fc, .int .i64 n, gv G (.slice ma G.m mc), .pointer (some ⟨w.heap.size, 0, none⟩), .pointer (some ⟨w.heap.size + 1, 0, none⟩), .pointer (some ⟨w.heap.size + 1 + 1, 0, none⟩), .pointer (some ⟨w.heap.size + 1 + 1 + 1, 0, none⟩), .int .i64 0, .int .i64 0, .pointer (some ⟨w1.heap.size, 0, none⟩), .int .i64 ((x.val : Int) + 1), ptr b o G.Ms G.m x.val, undef, .slice (some ⟨bt, 0, none⟩) N tc, .slice fa NF fc, .int .i64 n, .agg #[.int .i64 G.num, .int .i64 G.qt, .slice G.sa G.sN G.sc, .slice ma G.m mc], .int .i64 0, .int .i64 0, .bool false, undef, .slice fa NF fc, .int .i64 n, .slice fa NF fc, .pointer (some ⟨w.heap.size + 1 + 1 + 1, 1, none⟩), .int .i64 G.qt, .pointer (some ⟨w.heap.size + 1 + 1 + 1, 3, none⟩), .slice ma G.m mc, .func (.func 124) #[] #[.pointer (some ⟨W5.heap.size, 0, none⟩)], .int .i64 ((x.val : Int) + 1), ptr b o G.Ms G.m x.val, undef, undef, undef, undef, undef, undef, undef, undef, undef, undef, undef, undef, undef, undef, undef, undef, undef, undef, undef, undef, undef, undef, undef, undef, undef, undef, undef, undef], defers := [] })
    (fun x a' => fun s A C row h hg hr => h)
    ?assign ?body ?done ?stop
  case own => exact OwnFrom.and (Pa.own_arr (by omega) (fun pre => (gS n G.num N NF F f G.qt G.Ms G.m pre).2)) (OwnFrom.and (Own.from (boxed_own _ _ (fun pre => .int .i64 (gS n G.num N NF F f G.qt G.Ms G.m pre).1)) _) (OwnFrom.and (Own.from (boxed_own _ _ (fun _ => _)) _) (OwnFrom.and (Own.from (boxed_own _ _ (fun _ => _)) _) (OwnFrom.and (Own.from (boxed_own _ _ (fun _ => _)) _) (OwnFrom.and (Own.from (obj_own _ _ rfl) _) (Pa.own_grown (some bt) (by have := d6.size; omega)))))))
  case keep =>
    rintro pre A C ⟨h1, h2, h3, h4, h5, h6, h7⟩ hg
    have hz := d6.size
    exact ⟨h1.grown hg (fun e => by have := Option.some.inj e; omega), h2.kept hg (fun e => by have := Option.some.inj e; omega), h3.kept hg (fun e => by have := Option.some.inj e; omega), h4.kept hg (fun e => by have := Option.some.inj e; omega), h5.kept hg (fun e => by have := Option.some.inj e; omega), h6.kept hg (fun e => by have := Option.some.inj e; omega), grown_by2 h7 hg hz⟩
  case assign =>
    rintro l pre x V K sV hl ⟨h1, h2, h3, h4, h5, h6, h7⟩ hK
    dsimp only [encG]
    gi_wp2
    exact hK _ _ (KeepsFrom.refl _ _) (kpM_refl V) ⟨h1, h2, h3, h4, h5, h6, h7⟩ rfl
  case body =>
    rintro l pre x a' V hl ⟨r, hr⟩ ⟨h1, h2, h3, h4, h5, h6, h7⟩ rfl hlt
    obtain ⟨k, hk⟩ : ∃ k : Nat, x.val = k := ⟨_, rfl⟩
    obtain ⟨q0, hq0⟩ : ∃ q, (gS n G.num N NF F f G.qt G.Ms G.m pre).1 = q := ⟨_, rfl⟩
    obtain ⟨f0, hf0⟩ : ∃ g, (gS n G.num N NF F f G.qt G.Ms G.m pre).2 = g := ⟨_, rfl⟩
    rw [hq0] at h2
    rw [hf0] at h1
    have hGV := hG V h7
    have hSV := Sl.grown' hs h7 (fun _ y e e2 => hne y e (Option.some.inj e2))
    have c1 := h3.cell
    have c2 := h4.cell
    have c3 := h5.cell
    have c4 := h6.cell 0 _ rfl
    have c5 := h2.cell
    have f5 := h2.frozen
    have zw := h7.size
    have lt2 : w1.heap.size < V.heap.size := h2.lt
    have lt6 : w.heap.size + 3 < V.heap.size := h6.lt
    have H1 := Lib.hid h1
    have H2 := Lib.hid h2
    have H3 := Lib.hid h3
    have H4 := Lib.hid h4
    have H5 := Lib.hid h5
    have H6 := Lib.hid h6
    have H7 := Lib.hid h7
    have HSV := Lib.hid hSV
    have bs := (Below.refl V.heap.size V).alloc (Nat.le_refl _) (.cells #[.int .i64 n, .int .i64 G.num, .int .i64 ((k : Int) + 1)] 28)
    have HSP : Hid (At _ _ _ _) := Lib.hid (At.new V #[.int .i64 n, .int .i64 G.num, .int .i64 ((k : Int) + 1)] 28)
    have hbV : bt < V.heap.size := h1.lt h0
    by_cases hh : hitB G.Ms G.m (nx G.Ms G.m k) k = true
    · obtain ⟨hjm, had⟩ := hitB_iff.1 hh
      obtain rfl := hbo (by omega)
      have PT : ptr b o G.Ms G.m k = .pointer (some ⟨b, o + nx G.Ms G.m k * 7, none⟩) := if_pos hh
      have ST := Lib.hid (gS_hit (n := n) (num := G.num) (N := N) (NF := NF) (F := F) (f := f) (qt := G.qt) (pre := pre) (x := x) (by rw [hk]; exact hh))
      obtain ⟨a'', c'', ev, p1, p2, p3⟩ := hGV
      cases ev
      rcases p3 with h | ⟨b', o', e, hI⟩
      · omega
      cases e
      obtain ⟨hc, hraw⟩ := hI (nx G.Ms G.m k) hjm
      rw [hk, hq0, hf0] at ST
      obtain ⟨j, hj⟩ : ∃ j, nx G.Ms G.m k = j := ⟨_, rfl⟩
      rw [hj] at hjm had PT hc hraw ST
      rw [hk, PT]
      obtain ⟨va, vc, hvk, _, _, _⟩ := id hraw
      rw [hvk] at hraw
      have e0 : V.cell? ⟨b, o + j * 7, none⟩ = some (.int .i64 (G.Ms j).ad) := hc 0 (by omega)
      have e1 : V.cell? ⟨b, o + j * 7 + 1, none⟩ = some (.int .i64 (G.Ms j).kd) := hc 1 (by omega)
      have e2 : V.cell? ⟨b, o + j * 7 + 2, none⟩ = some (.int .i64 (G.Ms j).qt) := hc 2 (by omega)
      have e3 : V.cell? ⟨b, o + j * 7 + 3, none⟩ = some (.int .i64 (G.Ms j).x) := hc 3 (by omega)
      have e4 : V.cell? ⟨b, o + j * 7 + 4, none⟩ = some (.int .i64 (G.Ms j).y) := hc 4 (by omega)
      have e5 : V.cell? ⟨b, o + j * 7 + 5, none⟩ = some (.int .i64 (G.Ms j).pt) := hc 5 (by omega)
      have e6 : V.cell? ⟨b, o + j * 7 + 6, none⟩ = some (.slice va (G.Ms j).m vc) := by rw [← hvk]; exact hc 6 (by omega)
      have HMA := Lib.hid ((hsh j hjm).at hraw)
      clear hc hI PT hh hl hr h1 h2 h3 h4 h5 h6 h7 hSV had
      gi_upto_region 9 with fail
      have e0 := (bs.cell (p := ⟨b, o + j * 7, none⟩) (World.block_lt_of_cell? _ _ e0)).trans e0
      have e1 := (bs.cell (p := ⟨b, o + j * 7 + 1, none⟩) (World.block_lt_of_cell? _ _ e1)).trans e1
      have e2 := (bs.cell (p := ⟨b, o + j * 7 + 2, none⟩) (World.block_lt_of_cell? _ _ e2)).trans e2
      have e3 := (bs.cell (p := ⟨b, o + j * 7 + 3, none⟩) (World.block_lt_of_cell? _ _ e3)).trans e3
      have e4 := (bs.cell (p := ⟨b, o + j * 7 + 4, none⟩) (World.block_lt_of_cell? _ _ e4)).trans e4
      have e5 := (bs.cell (p := ⟨b, o + j * 7 + 5, none⟩) (World.block_lt_of_cell? _ _ e5)).trans e5
      have e6 := (bs.cell (p := ⟨b, o + j * 7 + 6, none⟩) (World.block_lt_of_cell? _ _ e6)).trans e6
      have H1 := Lib.hid (H1.out.below bs hbV)
      have H2 := Lib.hid (H2.out.kept (grown_of_below bs none) (by simp))
      have H3 := Lib.hid (H3.out.kept (grown_of_below bs none) (by simp))
      have H4 := Lib.hid (H4.out.kept (grown_of_below bs none) (by simp))
      have H5 := Lib.hid (H5.out.kept (grown_of_below bs none) (by simp))
      have H6 := Lib.hid (H6.out.below bs)
      have H7 := Lib.hid (grown_trans H7.out (grown_of_below bs (some bt)))
      have HSV := Lib.hid (HSV.out.below bs)
      have HMA := Lib.hid (HMA.out.below bs)
      have zV := bs.size
      clear c1 c2 c3 c4 c5 f5 hraw
      have c1 := H3.out.cell
      have c2 := H4.out.cell
      have c5 := H2.out.cell
      have f5 := H2.out.frozen
      have KK := Lib.hid (kpB_below (B := W5.heap.size) (b := b) bs)
      have hbV1 : b < V.heap.size := by omega
      have hSlG := fun (X : World) (hX : w.grownBy X (some bt)) => Sl.grown' hs hX (fun _ y e e2 => hne y e (Option.some.inj e2))
      have hMaG : ∀ X : World, w.grownBy X (some bt) → (G.Ms j).at X (.slice va (G.Ms j).m vc) := fun X hX => by
        obtain ⟨_, _, ev, _, _, p3⟩ := hG X hX
        cases ev
        rcases p3 with h | ⟨_, _, _, hI⟩
        · omega
        · have := (hsh j hjm).at (hI j hjm).2
          rwa [hvk] at this
      have zq : w1.heap.size < V.heap.size := by omega
      generalize V.alloc (.cells #[.int .i64 n, .int .i64 G.num, .int .i64 ((k : Int) + 1)] 28) = V1 at *
      by_cases hq : 0 < (G.Ms j).qt
      · skip
        have gq := Kd.grown_cell V1 w1.heap.size 0 (.int .i64 (G.Ms j).qt)
        have K2 := Lib.hid (kpB_t (KK.out) (kpB_some (B := W5.heap.size) (b := b) gq (by omega) (by omega)))
        have H1 := Lib.hid (H1.out.grown gq (fun e => by have := Option.some.inj e; omega))
        have H2 := Lib.hid (H2.out.set (.int .i64 (G.Ms j).qt))
        have H3 := Lib.hid (H3.out.kept gq (fun e => by have := Option.some.inj e; omega))
        have H4 := Lib.hid (H4.out.kept gq (fun e => by have := Option.some.inj e; omega))
        have H5 := Lib.hid (H5.out.kept gq (fun e => by have := Option.some.inj e; omega))
        have H6 := Lib.hid (H6.out.kept gq (fun e => by have := Option.some.inj e; omega))
        have HSP := Lib.hid (HSP.out.kept gq (fun e => by have := Option.some.inj e; omega))
        have H7 := Lib.hid (grown_by2 H7.out gq (by omega))
        have HSV := Lib.hid (hSlG _ H7.out)
        have HMA := Lib.hid (hMaG _ H7.out)
        have x0 := grown_cell gq (fun e => by have := Option.some.inj e; omega) e0
        have x1 := grown_cell gq (fun e => by have := Option.some.inj e; omega) e1
        have x2 := grown_cell gq (fun e => by have := Option.some.inj e; omega) e2
        have x3 := grown_cell gq (fun e => by have := Option.some.inj e; omega) e3
        have x4 := grown_cell gq (fun e => by have := Option.some.inj e; omega) e4
        have x5 := grown_cell gq (fun e => by have := Option.some.inj e; omega) e5
        have x6 := grown_cell gq (fun e => by have := Option.some.inj e; omega) e6
        clear gq
        gi_upto_region 13 with fail
        clear e0 e1 e2 e3 e4 e5 e6 c1 c2 c5 f5 KK
        generalize V1.setCell ⟨w1.heap.size, 0, none⟩ (.int .i64 (G.Ms j).qt) = V2 at *
        have y0 := Past.cell x0
        have y1 := Past.cell x1
        have y2 := Past.cell x2
        have y3 := Past.cell x3
        have y4 := Past.cell x4
        have y5 := Past.cell x5
        have y6 := Past.cell x6
        have y7 := Past.cell H3.out.cell
        have y8 := Past.cell H4.out.cell
        have y9 := Past.cell H2.out.cell
        have y10 := Past.cell (show V2.cell? ⟨V.heap.size, 0, none⟩ = some (.int .i64 n) from HSP.out.cell 0 _ rfl)
        have y11 := Past.cell (show V2.cell? ⟨V.heap.size, 1, none⟩ = some (.int .i64 G.num) from HSP.out.cell 1 _ rfl)
        have y12 := Past.cell (show V2.cell? ⟨V.heap.size, 2, none⟩ = some (.int .i64 ((k : Int) + 1)) from HSP.out.cell 2 _ rfl)
        clear x0 x1 x2 x3 x4 x5 x6
        refine regionIn_head_round 7 (by kernel_rfl) (by kernel_rfl) ?_
        simp only [List.take_succ_cons, List.take_zero, List.drop_succ_cons, List.drop_zero]
        repeat (go_big_quiet_step (fail))
        refine wpQuiet_nil ?_
        rintro V5 ⟨⟨_, h5⟩, rfl⟩
        have CALL := Lib.hid (Macro_any (G.Ms j) (.slice va (G.Ms j).m vc) bt N R tc fa NF fc f0 F n G.num ((k : Int) + 1) (G.Ms j).qt V5 (H1.out.below h5 (H1.out.lt h0)) hR hNc h0 (HSV.out.below h5) hf (HMA.out.below h5))
        have Z3 := Lib.hid (H3.out.kept (grown_of_below h5 none) (by simp))
        have Z4 := Lib.hid (H4.out.kept (grown_of_below h5 none) (by simp))
        have Z5 := Lib.hid (H5.out.kept (grown_of_below h5 none) (by simp))
        have Z6 := Lib.hid (H6.out.below h5)
        have Z2 := Lib.hid (H2.out.kept (grown_of_below h5 none) (by simp))
        have Z7 := Lib.hid (grown_trans H7.out (grown_of_below h5 (some bt)))
        have ZK := Lib.hid (kpB_t K2.out (kpB_below h5))
        clear y0 y1 y2 y3 y4 y5 y6 y7 y8 y9 y10 y11 y12 h5 H1 H2 H3 H4 H5 H6 H7 HSV HMA HSP K2
        gi_wp2_with (refine ⟨trivial, ?_⟩; gi_at_call 16; refine (callsIn_wide.2 CALL.out).mono ?_; rintro e V6 ⟨rfl, m1, m2⟩; have M1 := Lib.hid m1; have M2 := Lib.hid m2; clear m1 m2)
        have hzz := ZK.out.1
        have KF := kpB_t ZK.out (kpB_some (B := W5.heap.size) (b := b) M2.out (by omega) (by omega))
        refine ⟨KF.keeps (by omega), KF.kpM, ?_, ?_, Z3.out.kept M2.out (fun e => by have := Option.some.inj e; omega), Z4.out.kept M2.out (fun e => by have := Option.some.inj e; omega), Z5.out.kept M2.out (fun e => by have := Option.some.inj e; omega), Z6.out.kept M2.out (fun e => by have := Option.some.inj e; omega), grown_trans Z7.out M2.out⟩
        · rw [ST.out]
          simp only [if_pos hq]
          exact M1.out
        · rw [ST.out]
          simp only [if_pos hq]
          exact Z2.out.kept M2.out (fun e => by have := Option.some.inj e; omega)
      · skip
        have K2 := Lib.hid KK.out
        have x0 := e0
        have x1 := e1
        have x2 := e2
        have x3 := e3
        have x4 := e4
        have x5 := e5
        have x6 := e6
        gi_upto_region 13 with fail
        clear e0 e1 e2 e3 e4 e5 e6 c1 c2 c5 f5 KK
        have y0 := Past.cell x0
        have y1 := Past.cell x1
        have y2 := Past.cell x2
        have y3 := Past.cell x3
        have y4 := Past.cell x4
        have y5 := Past.cell x5
        have y6 := Past.cell x6
        have y7 := Past.cell H3.out.cell
        have y8 := Past.cell H4.out.cell
        have y9 := Past.cell H2.out.cell
        have y10 := Past.cell (show V1.cell? ⟨V.heap.size, 0, none⟩ = some (.int .i64 n) from HSP.out.cell 0 _ rfl)
        have y11 := Past.cell (show V1.cell? ⟨V.heap.size, 1, none⟩ = some (.int .i64 G.num) from HSP.out.cell 1 _ rfl)
        have y12 := Past.cell (show V1.cell? ⟨V.heap.size, 2, none⟩ = some (.int .i64 ((k : Int) + 1)) from HSP.out.cell 2 _ rfl)
        clear x0 x1 x2 x3 x4 x5 x6
        refine regionIn_head_round 7 (by kernel_rfl) (by kernel_rfl) ?_
        simp only [List.take_succ_cons, List.take_zero, List.drop_succ_cons, List.drop_zero]
        repeat (go_big_quiet_step (fail))
        refine wpQuiet_nil ?_
        rintro V5 ⟨⟨_, h5⟩, rfl⟩
        have CALL := Lib.hid (Macro_any (G.Ms j) (.slice va (G.Ms j).m vc) bt N R tc fa NF fc f0 F n G.num ((k : Int) + 1) q0 V5 (H1.out.below h5 (H1.out.lt h0)) hR hNc h0 (HSV.out.below h5) hf (HMA.out.below h5))
        have Z3 := Lib.hid (H3.out.kept (grown_of_below h5 none) (by simp))
        have Z4 := Lib.hid (H4.out.kept (grown_of_below h5 none) (by simp))
        have Z5 := Lib.hid (H5.out.kept (grown_of_below h5 none) (by simp))
        have Z6 := Lib.hid (H6.out.below h5)
        have Z2 := Lib.hid (H2.out.kept (grown_of_below h5 none) (by simp))
        have Z7 := Lib.hid (grown_trans H7.out (grown_of_below h5 (some bt)))
        have ZK := Lib.hid (kpB_t K2.out (kpB_below h5))
        clear y0 y1 y2 y3 y4 y5 y6 y7 y8 y9 y10 y11 y12 h5 H1 H2 H3 H4 H5 H6 H7 HSV HMA HSP K2
        gi_wp2_with (refine ⟨trivial, ?_⟩; gi_at_call 16; refine (callsIn_wide.2 CALL.out).mono ?_; rintro e V6 ⟨rfl, m1, m2⟩; have M1 := Lib.hid m1; have M2 := Lib.hid m2; clear m1 m2)
        have hzz := ZK.out.1
        have KF := kpB_t ZK.out (kpB_some (B := W5.heap.size) (b := b) M2.out (by omega) (by omega))
        refine ⟨KF.keeps (by omega), KF.kpM, ?_, ?_, Z3.out.kept M2.out (fun e => by have := Option.some.inj e; omega), Z4.out.kept M2.out (fun e => by have := Option.some.inj e; omega), Z5.out.kept M2.out (fun e => by have := Option.some.inj e; omega), Z6.out.kept M2.out (fun e => by have := Option.some.inj e; omega), grown_trans Z7.out M2.out⟩
        · rw [ST.out]
          rw [if_neg (show ¬ 0 < (G.Ms j).qt by omega)]
          exact M1.out
        · rw [ST.out]
          rw [if_neg (show ¬ 0 < (G.Ms j).qt by omega)]
          exact Z2.out.kept M2.out (fun e => by have := Option.some.inj e; omega)
    · have hh' : hitB G.Ms G.m (nx G.Ms G.m k) k = false := by simpa using hh
      have PT : ptr b o G.Ms G.m k = .pointer none := if_neg hh
      have ST := Lib.hid (gS_miss (n := n) (num := G.num) (N := N) (NF := NF) (F := F) (f := f) (qt := G.qt) (pre := pre) (x := x) (by rw [hk]; exact hh'))
      rw [hk, hq0, hf0] at ST
      rw [hk, PT]
      clear PT hh hh' hl hr h1 h2 h3 h4 h5 h6 h7 hSV hGV
      gi_upto_region 9 with fail
      have H1 := Lib.hid (H1.out.below bs hbV)
      have H2 := Lib.hid (H2.out.kept (grown_of_below bs none) (by simp))
      have H3 := Lib.hid (H3.out.kept (grown_of_below bs none) (by simp))
      have H4 := Lib.hid (H4.out.kept (grown_of_below bs none) (by simp))
      have H5 := Lib.hid (H5.out.kept (grown_of_below bs none) (by simp))
      have H6 := Lib.hid (H6.out.below bs)
      have H7 := Lib.hid (grown_trans H7.out (grown_of_below bs (some bt)))
      have HSV := Lib.hid (HSV.out.below bs)
      have KK := Lib.hid (kpB_below (B := W5.heap.size) (b := b) bs)
      clear c1 c2 c3 c4 c5 f5
      have c1 := H3.out.cell
      have c2 := H4.out.cell
      have s0 := HSP.out.cell 0 _ rfl
      have s1 := HSP.out.cell 1 _ rfl
      have s2 := HSP.out.cell 2 _ rfl
      generalize V.alloc (.cells #[.int .i64 n, .int .i64 G.num, .int .i64 ((k : Int) + 1)] 28) = V1 at *
      have CALL := Lib.hid (Pa.Copy_any bt N R tc fa NF fc f0 F n G.num ((k : Int) + 1) V1 H1.out hR hNc h0 HSV.out (fun _ => hne))
      gi_wp2_with (refine ⟨trivial, ?_⟩; gi_at_call 32; refine (callsIn_wide.2 CALL.out).mono ?_; rintro e V6 ⟨rfl, m1, m2⟩; have M1 := Lib.hid m1; have M2 := Lib.hid m2; clear m1 m2 c1 c2 s0 s1 s2)
      have hzz := KK.out.1
      have KF := kpB_t KK.out (kpB_some (B := W5.heap.size) (b := b) M2.out (by omega) (by omega))
      refine ⟨KF.keeps (by omega), KF.kpM, ?_, ?_, H3.out.kept M2.out (fun e => by have := Option.some.inj e; omega), H4.out.kept M2.out (fun e => by have := Option.some.inj e; omega), H5.out.kept M2.out (fun e => by have := Option.some.inj e; omega), H6.out.kept M2.out (fun e => by have := Option.some.inj e; omega), grown_trans H7.out M2.out⟩
      · rw [ST.out]; exact M1.out
      · rw [ST.out]; exact H2.out.kept M2.out (fun e => by have := Option.some.inj e; omega)
  case stop =>
    rintro Dd c pre V hD hSp h hK
    exact h.elim
  case done =>
    rintro Dd ys V hD rfl ⟨h1, h2, h3, h4, h5, h6, h7⟩ hK
    have gp := grownBy_putObj' V Dd (.deferred none)
    have a1 : Arr (V.putObj Dd (.deferred none)) .u8 bt R (gP n G.num N NF F f G.qt G.Ms G.m 33) := by
      rw [gS_all] at h1
      exact h1.grown gp (fun e => by have := Option.some.inj e; omega)
    have a2 := grown_by2 h7 gp (by have := d6.size; omega)
    have A1 := Lib.hid a1
    have A2 := Lib.hid a2
    clear h1 h2 h3 h4 h5 h6 h7 gp a1 a2
    go_wp2
    refine ⟨by simp, .inl ⟨_, _, rfl, run_takeDeferred hK, ?_⟩⟩
    exact ⟨_, results_tmp rfl _ _ _, rfl, A1.out, A2.out⟩
end
end Bl
end Go.Proofs.YtbmglemjfodfhaaGreat

namespace Go.Proofs.YtbmglemjfodfhaaGreat
open Go.RowKit
namespace Bl
open Bk Fr Pt Kd Bu

theorem gE_ok {G : GB} {n : Int} {N NF : Nat} (h : gE G n N NF = 0) : fE n = 0 ∧ Nx.nEr n G.num = 0 ∧ G.num ≠ 0 ∧ ¬ gB3 G n N NF ∧ rise G.Ms G.m ∧ fits n G.num G.Ms G.m := by
  unfold gE at h
  by_cases h1 : fE n = 0
  · rw [if_neg (by omega)] at h
    by_cases h2 : Nx.nEr n G.num ≠ 0 ∨ G.num = 0
    · rw [if_pos h2] at h; exact absurd h (by decide)
    · rw [if_neg h2] at h
      by_cases h3 : gB3 G n N NF
      · rw [if_pos h3] at h; exact absurd h (by decide)
      · rw [if_neg h3] at h
        by_cases h4 : rise G.Ms G.m
        · rw [if_neg (fun h => h h4)] at h
          by_cases h5 : fits n G.num G.Ms G.m
          · refine ⟨h1, ?_, fun e => h2 (.inr e), h3, h4, h5⟩
            by_cases e : Nx.nEr n G.num = 0
            · exact e
            · exact absurd (.inl e) h2
          · rw [if_pos h5] at h; exact absurd h (by decide)
        · rw [if_pos h4] at h; exact absurd h (by decide)
  · rw [if_pos h1] at h; exact absurd h h1
theorem grp_cE {n num a : Int} (h1 : fE n = 0) (h2 : Nx.nEr n num = 0) (h3 : num ≠ 0) (ha : 1 ≤ a ∧ a ≤ 33) : cE n num a = 0 := by
  have hn : n = 0 ∨ n = 1 := by
    by_cases h : n = 0 ∨ n = 1
    · exact h
    · unfold fE at h1; rw [if_neg h] at h1; exact absurd h1 (by decide)
  unfold Nx.nEr at h2
  rw [if_pos hn] at h2
  have hg : inG n num = true := by
    by_cases h : num = 0 ∨ inG n num = true
    · rcases h with h | h
      · exact absurd h h3
      · exact h
    · rw [if_neg h] at h2; exact absurd h2 (by decide)
  unfold cE
  rw [if_pos hn, if_pos hg, if_neg (by omega)]
/-- each macroblock of a group that may be is built. -/
theorem grp_macE {G : GB} {n : Int} {N NF : Nat} (h : gE G n N NF = 0) (hN : (N : Int) = zV n) (hNF : NF = 0 ∨ (NF : Int) = zV n) {k j : Nat} (hk : k < 33) (hj : j < G.m) (had : (G.Ms j).ad = (k : Int) + 1) {q : Int} (hq : 1 ≤ q ∧ q ≤ 31) : macE (G.Ms j) n G.num ((k : Int) + 1) N NF q = 0 := by
  obtain ⟨h1, h2, h3, h4, h5, h6⟩ := gE_ok h
  have hc := grp_cE (a := (k : Int) + 1) h1 h2 h3 (by omega)
  have he := (h5 j hj).1
  have hf := h6 j hj
  unfold macE
  rw [if_neg (by omega), if_neg (by omega)]
  unfold smE
  rw [if_neg (by omega), if_neg (by rintro (h | h | h); rcases hNF with e | e; omega; exact h.2 e; exact h he; exact h had), if_neg (by omega), if_neg]
  rw [had] at hf
  exact hf
set_option maxRecDepth 100000 in
set_option maxHeartbeats 8000000 in
set_option linter.unusedVariables false in
theorem BuildParts_any (fo : Int) (G : GB) (mvv : Value) (sa sb : Int) (w : World) (_ : (Lit.int .i64 fo).wf = true) (hG0 : G.raw w mvv) (_ : (Lit.int .i64 sa).wf = true) (_ : (Lit.int .i64 sb).wf = true) :
    Calls Tryz.prog 9 #[.int .i64 fo, gv G mvv, .int .i64 sa, .int .i64 sb] w fun e w' => e = .returned (.bool true) ∧ Below w.heap.size w w' := by
  have HG0 := Lib.hid hG0
  obtain ⟨ma, mc, hmv, _, _, _⟩ := hG0.ms
  subst hmv
  clear hG0
  have HB := Lib.hid ((Below.refl w.heap.size w).alloc (Nat.le_refl _) (.cells #[.int .i64 G.num, .int .i64 G.qt, .slice G.sa G.sN G.sc, .slice ma G.m mc] 56))
  have H5 : Hid (At _ _ _ _) := Lib.hid (At.new w #[.int .i64 G.num, .int .i64 G.qt, .slice G.sa G.sN G.sc, .slice ma G.m mc] 56)
  have zb : w.heap.size < (w.alloc (.cells #[.int .i64 G.num, .int .i64 G.qt, .slice G.sa G.sN G.sc, .slice ma G.m mc] 56)).heap.size := by simp
  go_enter Tryz.func9, Tryz.ntmps9
  go_upto_region 1 with fail
  generalize w.alloc (.cells #[.int .i64 G.num, .int .i64 G.qt, .slice G.sa G.sN G.sc, .slice ma G.m mc] 56) = W0 at *
  go_wp2_with fail
  refine (awake_any _).mono ?_
  rintro e v1 ⟨rfl, h1⟩
  have HB := Lib.hid (chain HB.out h1)
  have H5 := Lib.hid (H5.out.below h1)
  have zb := Nat.lt_of_lt_of_le zb h1.size
  clear h1
  have c0 := H5.out.cell 0 _ rfl
  have c1 := H5.out.cell 1 _ rfl
  have c2 := H5.out.cell 2 _ rfl
  have c3 := H5.out.cell 3 _ rfl
  go_wp2_with fail
  refine (LongGroup_any G _ _ (HG0.out.below HB.out)).mono ?_
  rintro e v2 ⟨bl, rfl, hsh, h1⟩
  have HB := Lib.hid (chain HB.out h1)
  have H5 := Lib.hid (H5.out.below h1)
  have zb := Nat.lt_of_lt_of_le zb h1.size
  have HSH := Lib.hid hsh
  clear h1 hsh c0 c1 c2 c3
  cases bl with
  | true =>
    go_wp2_with fail
    go_ret
    exact ⟨rfl, HB.out⟩
  | false =>
  have HS := Lib.hid (HSH.out rfl).2.2
  have HM40 := (HSH.out rfl).1
  clear HSH
  obtain ⟨m, hm⟩ : ∃ m, fo % 2 = m := ⟨_, rfl⟩
  have hm01 : m = 0 ∨ m = 1 := by omega
  obtain ⟨N, hN⟩ : ∃ N : Nat, (N : Int) = zV m := ⟨(zV m).toNat, by rcases hm01 with rfl | rfl <;> rfl⟩
  have Nb : 38016 ≤ N ∧ N ≤ 152064 := by rcases hm01 with rfl | rfl <;> (have : (N : Int) = _ := hN; simp [zV] at this; omega)
  have Nm : N ≤ maxLen := Nat.le_trans Nb.2 (by decide)
  have N0 : 0 < N := by omega
  have HMo := Lib.hid hm
  have H01 := Lib.hid hm01
  have HN := Lib.hid hN
  clear hm hm01 hN
  go_wp2_with (go_at_call 31; refine (Pick_any fo 2 _ (by omega) (by omega)).mono ?_; rintro e w1 ⟨rfl, rfl⟩; rw [HMo.out])
  refine (Mo.SceneB_any m sa 1 N H01.out HN.out _).mono ?_
  rintro e v3 ⟨gx, fx, rfl, x1, x2, hA, _, h1⟩
  have lx := Nat.lt_of_lt_of_le zb x1
  have HX := Lib.hid hA
  have HB := Lib.hid (chain HB.out h1)
  have H5 := Lib.hid (H5.out.below h1)
  clear hA h1
  go_wp2_with fail
  refine (Mo.SceneB_any m sb 2 N H01.out HN.out _).mono ?_
  rintro e v4 ⟨gf, F, rfl, f1, f2, hA, fbd, h1⟩
  have lf : gx < gf := by omega
  have HF := Lib.hid hA
  have FBD := Lib.hid fbd
  have HX := Lib.hid (HX.out.below h1 x2)
  have HB := Lib.hid (chain HB.out h1)
  have H5 := Lib.hid (H5.out.below h1)
  clear hA fbd h1
  go_wp2_with fail
  refine (CopyBytes_any _ N fx _ (by omega) (arr_part HX.out N0 (Nat.le_refl _) Nm)).mono ?_
  rintro e v5 ⟨gy, cy, rfl, y1, y2, y3, y4, hA, h1⟩
  have ly : gf < gy := by omega
  have HY := Lib.hid hA
  have HX := Lib.hid (HX.out.below h1 (by omega))
  have HF := Lib.hid (HF.out.below h1 (by omega))
  have HB := Lib.hid (chain HB.out h1)
  have H5 := Lib.hid (H5.out.below h1)
  clear hA h1
  have c0 := H5.out.cell 0 _ rfl
  have c1 := H5.out.cell 1 _ rfl
  have c2 := H5.out.cell 2 _ rfl
  have c3 := H5.out.cell 3 _ rfl
  have GM := Lib.hid (HG0.out.ms.below HB.out)
  have zB := HB.out.size
  by_cases hE : gE G m N N = 0
  case neg =>
    have GN := Lib.hid (group_no G (.slice ma G.m mc) (some ⟨gx, 0, none⟩) (some ⟨gf, 0, none⟩) N N N N m v5 GM.out HS.out hE)
    obtain ⟨E, hE'⟩ : ∃ x, gE G m N N = x := ⟨_, rfl⟩
    rw [hE'] at GN hE
    have t1 : (E != 0) = true := by simpa using hE
    clear hE hE'
    go_wp2_with (first
      | (go_at_call 35; refine GN.out.mono ?_; rintro e v6 ⟨rfl, h1⟩; have HX := Lib.hid (HX.out.below h1 (by omega)); have HY := Lib.hid (HY.out.below h1 y2); have HB := Lib.hid (chain HB.out h1); clear h1 c0 c1 c2 c3)
      | (go_at_call 17; refine (SameBytes_true _ _ N _ _ _ (arr_part HX.out N0 (Nat.le_refl _) Nm) (arr_part HY.out N0 y3 y4) (fun _ _ => rfl)).mono ?_; rintro e v7 ⟨rfl, rfl⟩))
    go_ret
    exact ⟨rfl, HB.out⟩
  case pos =>
  have GSL : Hid (∀ V, v5.grownBy V (some gx) → Gsl V (.slice ma G.m mc) G.m G.Ms G.vb) := Lib.hid (fun V hg => HG0.out.ms.below (HB.out.grown hg HB.out.size (fun q e => by have := Option.some.inj e; omega)))
  have GY := group_yes G ma mc gx N N (some ⟨gf, 0, none⟩) N N N fx F m v5 GM.out HS.out hE HX.out (Nat.le_refl _) (Nat.le_refl _) N0 (arr_part HF.out N0 (Nat.le_refl _) Nm) FBD.out (fun x e => by cases e; show gf ≠ gx; omega) N0 GSL.out (fun h x e => by
    obtain ⟨a', c', ev, _, _, p3⟩ := HG0.out.ms
    cases ev
    rcases p3 with h3 | ⟨b, o, e2, hI⟩
    · omega
    · rw [e] at e2
      cases e2
      have := World.block_lt_of_cell? _ _ ((hI 0 h).1 0 (by omega))
      simp at this
      show b ≠ gx
      omega)
  rw [show aN N m = N from if_neg (by omega), show aF N F = F from if_neg (by omega)] at GY
  have GY := Lib.hid GY
  have HE := Lib.hid hE
  obtain ⟨_, _, _, hb3, hri, _⟩ := gE_ok hE
  have HRI := Lib.hid hri
  have HQT : Hid (1 ≤ G.qt ∧ G.qt ≤ 31) := Lib.hid (by
    unfold gB3 at hb3
    constructor
    · by_cases h : 1 ≤ G.qt
      · exact h
      · exact absurd (.inr (.inr (.inl (by omega)))) hb3
    · by_cases h : G.qt ≤ 31
      · exact h
      · exact absurd (.inr (.inr (.inr (by omega)))) hb3)
  have HCE : Hid (∀ k : Nat, k < 33 → cE m G.num ((k : Int) + 1) = 0) := Lib.hid (fun k hk => by
    obtain ⟨g1, g2, g3, _⟩ := gE_ok HE.out
    exact grp_cE g1 g2 g3 (by omega))
  clear hE hb3 hri
  go_wp2_with (go_at_call 35; refine GY.out.mono ?_; rintro e v6 ⟨rfl, hA, hg⟩; have HX := Lib.hid hA; have HGr := Lib.hid hg; clear hA hg c0 c1 c2 c3; have H5 := Lib.hid (H5.out.kept HGr.out (fun e => by have := Option.some.inj e; omega)); have c1 := H5.out.cell 1 _ rfl)
  have HF := Lib.hid (HF.out.grown HGr.out (fun e => by have := Option.some.inj e; omega))
  have HY := Lib.hid (HY.out.grown HGr.out (fun e => by have := Option.some.inj e; omega))
  have HB := Lib.hid (HB.out.grown HGr.out HB.out.size (fun q e => by have := Option.some.inj e; omega))
  have zB6 := HB.out.size
  have zy6 : gy < v6.heap.size := HY.out.lt N0
  clear GM GY GSL HGr c1
  go_loopw [15, 14, 13] (fun x nxt q wr => ∃ k : Nat, k ≤ 33 ∧ x = .int .i64 ((k : Int) + 1) ∧ nxt = .int .i64 ((nx G.Ms G.m k : Nat) : Int) ∧ q = .int .i64 (gQ G.qt G.Ms G.m k) ∧ Hid (Arr wr .u8 gy N (gP m G.num N N F fx G.qt G.Ms G.m k)) ∧ Hid (v6.grownBy wr (some gy))) (fun x _ _ _ => 34 - (intOf x).toNat)
  case atStart => exact ⟨0, by omega, rfl, rfl, rfl, HY, Lib.hid (grown_of_below (Below.refl _ _) _)⟩
  case round =>
    clear HY
    obtain ⟨k, hk, rfl, rfl, rfl, HY, HG⟩ := hrel
    by_cases hk33 : k < 33
    · have kb : (k : Int) + 1 ≤ 33 := by omega
      have ek : IntKind.i64.wrap ((k : Int) + 1 + 1) = (k : Int) + 1 + 1 := IntWalk.i64_in _ (by omega)
      have hnx := nx_le G.Ms G.m k
      have ej : IntKind.i64.wrap (((nx G.Ms G.m k : Nat) : Int) + 1) = ((nx G.Ms G.m k : Nat) : Int) + 1 := IntWalk.i64_in _ (by omega)
      have HBr := Lib.hid (HB.out.grown HG.out HB.out.size (fun q e => by have := Option.some.inj e; omega))
      have K5 := Lib.hid (H5.out.kept HG.out (fun e => by have := Option.some.inj e; omega))
      have KF := Lib.hid (HF.out.grown HG.out (fun e => by have := Option.some.inj e; omega))
      have zr := HBr.out.size
      have bs := (Below.refl wr.heap.size wr).alloc (Nat.le_refl _) (.cells #[.int .i64 m, .int .i64 G.num, .int .i64 ((k : Int) + 1)] 28)
      have HSP : Hid (At _ _ _ _) := Lib.hid (At.new wr #[.int .i64 m, .int .i64 G.num, .int .i64 ((k : Int) + 1)] 28)
      have c0 := K5.out.cell 0 _ rfl
      have hyl : gy < wr.heap.size := HY.out.lt N0
      have hce := HCE.out k hk33
      by_cases hh : hitB G.Ms G.m (nx G.Ms G.m k) k = true
      · obtain ⟨hjm, had⟩ := hitB_iff.1 hh
        have NX := Lib.hid (nx_hit hh)
        have GQ := gQ_hit (qt := G.qt) hh
        have GP := gP_hit (n := m) (num := G.num) (N := N) (NF := N) (F := F) (f := fx) (qt := G.qt) hh
        have hq31 := gQ_in HRI.out HQT.out (k + 1)
        have hmE := grp_macE HE.out HN.out (.inr HN.out) hk33 hjm had hq31
        obtain ⟨j, hj⟩ : ∃ j, nx G.Ms G.m k = j := ⟨_, rfl⟩
        rw [hj] at hjm had GQ GP hmE NX ej
        rw [hj]
        have hem := (HRI.out j hjm).1
        obtain ⟨a', c', ev, p1, p2, p3⟩ := HG0.out.ms.below HBr.out
        cases ev
        rcases p3 with h | ⟨b, o, rfl, hI⟩
        · omega
        obtain ⟨hc, hraw⟩ := hI j hjm
        obtain ⟨va, vc, hvk, _, _, _⟩ := id hraw
        rw [hvk] at hraw
        have e0 : wr.cell? ⟨b, o + j * 7, none⟩ = some (.int .i64 ((k : Int) + 1)) := by rw [← had]; exact hc 0 (by omega)
        have e1 : wr.cell? ⟨b, o + j * 7 + 1, none⟩ = some (.int .i64 (G.Ms j).kd) := hc 1 (by omega)
        have e2 : wr.cell? ⟨b, o + j * 7 + 2, none⟩ = some (.int .i64 (G.Ms j).qt) := hc 2 (by omega)
        have e3 : wr.cell? ⟨b, o + j * 7 + 3, none⟩ = some (.int .i64 (G.Ms j).x) := hc 3 (by omega)
        have e4 : wr.cell? ⟨b, o + j * 7 + 4, none⟩ = some (.int .i64 (G.Ms j).y) := hc 4 (by omega)
        have e5 : wr.cell? ⟨b, o + j * 7 + 5, none⟩ = some (.int .i64 (G.Ms j).pt) := hc 5 (by omega)
        have e6 : wr.cell? ⟨b, o + j * 7 + 6, none⟩ = some (.slice va (G.Ms j).m vc) := by rw [← hvk]; exact hc 6 (by omega)
        have HMA := Lib.hid ((HS.out j hjm).at hraw)
        have kj : (0 : Int) ≤ (j : Int) ∧ (j : Int) < (G.m : Int) := by omega
        have HADk := Lib.hid had
        have lbb := World.block_lt_of_cell? _ _ e1
        have HK := Lib.hid (fun V => Of_any (G.Ms j).kd V)
        unfold parts at HK
        have hkd := (ok_xy hem).2.2.2.1
        rw [show kE (G.Ms j).kd = 0 by unfold kE; rw [hkd]; rfl] at HK
        have HQP := qt_pos hem
        obtain ⟨zI, hI2⟩ : ∃ z, pI (G.Ms j).kd = z := ⟨_, rfl⟩
        obtain ⟨zQ, hzQ⟩ : ∃ z, pQ (G.Ms j).kd = z := ⟨_, rfl⟩
        obtain ⟨zV', hzV⟩ : ∃ z, pV (G.Ms j).kd = z := ⟨_, rfl⟩
        obtain ⟨zF, hzF⟩ : ∃ z, pF (G.Ms j).kd = z := ⟨_, rfl⟩
        obtain ⟨zC, hzC⟩ : ∃ z, pC (G.Ms j).kd = z := ⟨_, rfl⟩
        rw [hI2, hzQ, hzV, hzF, hzC] at HK
        rw [hzQ] at HQP
        obtain ⟨Q1, hQ1⟩ : ∃ q, gQ G.qt G.Ms G.m (k + 1) = q := ⟨_, rfl⟩
        obtain ⟨Q0, hQ0⟩ : ∃ q, gQ G.qt G.Ms G.m k = q := ⟨_, rfl⟩
        obtain ⟨P0, hP0⟩ : ∃ q, gP m G.num N N F fx G.qt G.Ms G.m k = q := ⟨_, rfl⟩
        rw [hQ1] at hmE
        rw [hQ1, hQ0] at GQ
        rw [hQ1, hP0] at GP
        rw [hP0] at HY
        rw [hQ0]
        have HQ1 := Lib.hid hQ1
        have HGP := Lib.hid GP
        have HGQ : Hid (Q1 = if zQ = true then (G.Ms j).qt else Q0) := Lib.hid (by
          rw [GQ]
          by_cases h : 0 < (G.Ms j).qt
          · rw [if_pos h, if_pos (HQP.1 h)]
          · rw [if_neg h, if_neg (fun e => h (HQP.2 e))])
        have MC : Hid (∀ V, wr.heap.size ≤ V.heap.size → Below wr.heap.size wr V → Calls Tryz.prog 16 #[.slice (some ⟨gy, 0, none⟩) N cy, .slice (some ⟨gf, 0, none⟩) N N, sp m G.num ((k : Int) + 1), .agg #[.int .i64 ((k : Int) + 1), .int .i64 (G.Ms j).kd, .int .i64 (G.Ms j).qt, .int .i64 (G.Ms j).x, .int .i64 (G.Ms j).y, .int .i64 (G.Ms j).pt, .slice va (G.Ms j).m vc], .int .i64 Q1] V fun e w' => e = .returned (.int .i64 0) ∧ Arr w' .u8 gy N (macF (G.Ms j) m G.num ((k : Int) + 1) N N Q1 F P0) ∧ V.grownBy w' (some gy)) := Lib.hid (fun V _ hV => by
          have := Macro_any (G.Ms j) (.slice va (G.Ms j).m vc) gy N N cy (some ⟨gf, 0, none⟩) N N P0 F m G.num ((k : Int) + 1) Q1 V (HY.out.below hV hyl) (Nat.le_refl _) y3 N0 (arr_part (KF.out.below hV (by omega)) N0 (Nat.le_refl _) Nm) FBD.out (HMA.out.below hV)
          rw [hmE] at this
          rw [← had]
          rw [← had] at this
          exact this)
        clear hc hraw hvk hI hem hkd hI2 hzQ hzV hzF hzC hQ1 hQ0 hP0 GQ GP hmE HQP had hh HMA hce hj hq31
        have c3 := K5.out.cell 3 _ rfl
        go_upto_region 14 with fail
        have c3 := (K5.out.below bs).cell 3 _ rfl
        have e0 := (bs.cell (p := ⟨b, o + j * 7, none⟩) lbb).trans e0
        have e1 := (bs.cell (p := ⟨b, o + j * 7 + 1, none⟩) lbb).trans e1
        have e2 := (bs.cell (p := ⟨b, o + j * 7 + 2, none⟩) lbb).trans e2
        have e3 := (bs.cell (p := ⟨b, o + j * 7 + 3, none⟩) lbb).trans e3
        have e4 := (bs.cell (p := ⟨b, o + j * 7 + 4, none⟩) lbb).trans e4
        have e5 := (bs.cell (p := ⟨b, o + j * 7 + 5, none⟩) lbb).trans e5
        have e6 := (bs.cell (p := ⟨b, o + j * 7 + 6, none⟩) lbb).trans e6
        have BV := Lib.hid bs
        have tk : (((k : Int) + 1) == ((k : Int) + 1)) = true := by simp
        clear c0 bs
        generalize wr.alloc (.cells #[.int .i64 m, .int .i64 G.num, .int .i64 ((k : Int) + 1)] 28) = W1 at *
        go_wp2_with fail
        refine (HK.out _).mono ?_
        rintro e w5 ⟨rfl, b5⟩
        have b6 := (Below.refl w5.heap.size w5).alloc (Nat.le_refl _) (.cells #[.bool zI, .bool zQ, .bool zV', .bool zF, .bool zC] 67)
        have HP := Lib.hid (At.new w5 #[.bool zI, .bool zQ, .bool zV', .bool zF, .bool zC] 67)
        have b7 := chain b5 b6
        have BV := Lib.hid (chain BV.out b7)
        have HSP := Lib.hid (HSP.out.below b7)
        have lb1 := World.block_lt_of_cell? _ _ e1
        have c3 := (b7.cell (p := ⟨w.heap.size, 3, none⟩) (World.block_lt_of_cell? _ _ c3)).trans c3
        have e0 := (b7.cell (p := ⟨b, o + j * 7, none⟩) lb1).trans e0
        have e1 := (b7.cell (p := ⟨b, o + j * 7 + 1, none⟩) lb1).trans e1
        have e2 := (b7.cell (p := ⟨b, o + j * 7 + 2, none⟩) lb1).trans e2
        have e3 := (b7.cell (p := ⟨b, o + j * 7 + 3, none⟩) lb1).trans e3
        have e4 := (b7.cell (p := ⟨b, o + j * 7 + 4, none⟩) lb1).trans e4
        have e5 := (b7.cell (p := ⟨b, o + j * 7 + 5, none⟩) lb1).trans e5
        have e6 := (b7.cell (p := ⟨b, o + j * 7 + 6, none⟩) lb1).trans e6
        clear b5 b6 b7 lb1 lbb HK
        go_upto_region 16 with fail
        have p1 := HP.out.cell 1 _ rfl
        generalize w5.alloc (.cells #[.bool zI, .bool zQ, .bool zV', .bool zF, .bool zC] 67) = W2 at *
        go_upto_if 84 with fail
        go_cut [13] (fun u wx => u = .int .i64 Q1 ∧ wx = W2)
        case first =>
          have HGQ := HGQ.out
          cases zQ with
          | true => (go_wp2_with fail; go_meet; exact ⟨by rw [HGQ]; rfl, rfl⟩)
          | false => (go_wp2_with fail; go_meet; exact ⟨by rw [HGQ]; rfl, rfl⟩)
        case rest =>
        obtain ⟨rfl, rfl⟩ := hcut
        have s0 := HSP.out.cell 0 _ rfl
        have s1 := HSP.out.cell 1 _ rfl
        have s2 := HSP.out.cell 2 _ rfl
        have lm := World.block_lt_of_cell? _ _ e1
        have lc := World.block_lt_of_cell? _ _ c3
        have zV := BV.out.size
        have lsp := HSP.out.lt
        have CALL := Lib.hid (MC.out wc.drew (by exact zV) (BV.out.drew))
        have neb : b ≠ gy := by
          obtain ⟨a', c', ev, _, _, p3⟩ := HG0.out.ms
          cases ev
          rcases p3 with h3 | ⟨b', o', e', hI⟩
          · omega
          · cases e'
            have := World.block_lt_of_cell? _ _ ((hI 0 (by omega)).1 0 (by omega))
            simp at this
            omega
        have nec : w.heap.size ≠ gy := by omega
        have nes : wr.heap.size ≠ gy := by omega
        clear HGQ HP p1 MC
        go_upto_region 20 with fail
        go_region_held3 (fun w' => w'.cell? ⟨wr.heap.size, 0, none⟩ = some (.int .i64 m) ∧ w'.cell? ⟨wr.heap.size, 1, none⟩ = some (.int .i64 G.num) ∧ w'.cell? ⟨wr.heap.size, 2, none⟩ = some (.int .i64 ((k : Int) + 1)) ∧ w'.cell? ⟨w.heap.size, 3, none⟩ = some (.slice (some ⟨b, o, none⟩) G.m mc) ∧ w'.cell? ⟨b, o + j * 7, none⟩ = some (.int .i64 ((k : Int) + 1)) ∧ w'.cell? ⟨b, o + j * 7 + 1, none⟩ = some (.int .i64 (G.Ms j).kd) ∧ w'.cell? ⟨b, o + j * 7 + 2, none⟩ = some (.int .i64 (G.Ms j).qt) ∧ w'.cell? ⟨b, o + j * 7 + 3, none⟩ = some (.int .i64 (G.Ms j).x) ∧ w'.cell? ⟨b, o + j * 7 + 4, none⟩ = some (.int .i64 (G.Ms j).y) ∧ w'.cell? ⟨b, o + j * 7 + 5, none⟩ = some (.int .i64 (G.Ms j).pt) ∧ w'.cell? ⟨b, o + j * 7 + 6, none⟩ = some (.slice va (G.Ms j).m vc))
          (first | exact ⟨s0, s1, s2, c3, e0, e1, e2, e3, e4, e5, e6⟩ | exact S3.out)
          (first | (go_at_call 16; refine CALL.out.mono ?_; rintro e w3 ⟨rfl, a3, g3⟩; have S3 := Lib.hid (And.intro (grown_cell g3 (fun e => nes (Option.some.inj e)) s0) (And.intro (grown_cell g3 (fun e => nes (Option.some.inj e)) s1) (And.intro (grown_cell g3 (fun e => nes (Option.some.inj e)) s2) (And.intro (grown_cell g3 (fun e => nec (Option.some.inj e)) c3) (And.intro (grown_cell g3 (fun e => neb (Option.some.inj e)) e0) (And.intro (grown_cell g3 (fun e => neb (Option.some.inj e)) e1) (And.intro (grown_cell g3 (fun e => neb (Option.some.inj e)) e2) (And.intro (grown_cell g3 (fun e => neb (Option.some.inj e)) e3) (And.intro (grown_cell g3 (fun e => neb (Option.some.inj e)) e4) (And.intro (grown_cell g3 (fun e => neb (Option.some.inj e)) e5) (grown_cell g3 (fun e => neb (Option.some.inj e)) e6))))))))))); have HY3 := Lib.hid a3; have HG3 := Lib.hid (grown_trans HG.out (grown_trans (grown_of_below BV.out.drew (some gy)) g3)); clear a3 g3))
        clear s0 s1 s2 c3 e0 e1 e2 e3 e4 e5 e6
        go_wp2_with fail
        go_roundw
        case rel => exact ⟨k + 1, by omega, by go_num, by rw [NX.out]; rfl, by rw [HQ1.out], Lib.hid (by rw [HGP.out]; exact HY3.out), HG3⟩
        case measure => simp [intOf]; omega
      · have hh' : hitB G.Ms G.m (nx G.Ms G.m k) k = false := by simpa using hh
        have NX := Lib.hid (nx_miss hh')
        have HGQ := Lib.hid (gQ_miss (qt := G.qt) hh')
        have HGP := Lib.hid (gP_miss (n := m) (num := G.num) (N := N) (NF := N) (F := F) (f := fx) (qt := G.qt) hh')
        have hcop := Pa.copE_ok hce HN.out HN.out
        have SK : Hid (∀ V, Below wr.heap.size wr V → Calls Tryz.prog 26 #[.slice (some ⟨gy, 0, none⟩) N cy, .slice (some ⟨gf, 0, none⟩) N N, sp m G.num ((k : Int) + 1)] V fun e w' => e = .returned (.int .i64 0) ∧ Arr w' .u8 gy N (Pa.copG m G.num ((k : Int) + 1) N N F (gP m G.num N N F fx G.qt G.Ms G.m k)) ∧ V.grownBy w' (some gy)) := Lib.hid (fun V hV => by
          have := Skip_any gy N N cy (some ⟨gf, 0, none⟩) N N (gP m G.num N N F fx G.qt G.Ms G.m k) F m G.num ((k : Int) + 1) V (HY.out.below hV hyl) (Nat.le_refl _) y3 N0 (arr_part (KF.out.below hV (by omega)) N0 (Nat.le_refl _) Nm) (fun _ x e => by cases e; show gf ≠ gy; omega)
          rw [show aN N m = N from if_neg (by omega), show aF N F = F from if_neg (by omega), hcop] at this
          exact this)
        clear hcop hce
        have BV := Lib.hid bs
        have SK1 := Lib.hid (SK.out _ BV.out)
        have HMk := Lib.hid (HG0.out.ms.below HBr.out)
        obtain ⟨j, hj⟩ : ∃ j, nx G.Ms G.m k = j := ⟨_, rfl⟩
        rw [hj] at NX hh hnx
        rw [hj]
        have c3 := K5.out.cell 3 _ rfl
        go_upto_region 14 with fail
        have c3 := (K5.out.below bs).cell 3 _ rfl
        have s0 := HSP.out.cell 0 _ rfl
        have s1 := HSP.out.cell 1 _ rfl
        have s2 := HSP.out.cell 2 _ rfl
        by_cases hjm : j < G.m
        · obtain ⟨a', c', ev, p1, p2, p3⟩ := HMk.out
          cases ev
          rcases p3 with h | ⟨b, o, rfl, hI⟩
          · omega
          have hadn : (G.Ms j).ad ≠ (k : Int) + 1 := fun e => hh (hitB_iff.2 ⟨hjm, e⟩)
          have e0 : wr.cell? ⟨b, o + j * 7, none⟩ = some (.int .i64 (G.Ms j).ad) := (hI j hjm).1 0 (by omega)
          have e0 := (bs.cell (p := ⟨b, o + j * 7, none⟩) (World.block_lt_of_cell? _ _ e0)).trans e0
          have kj : (0 : Int) ≤ (j : Int) ∧ (j : Int) < (G.m : Int) := by omega
          have tk : ((G.Ms j).ad == ((k : Int) + 1)) = false := by simpa using hadn
          clear c0 bs hI hadn hh hh' hj
          generalize wr.alloc (.cells #[.int .i64 m, .int .i64 G.num, .int .i64 ((k : Int) + 1)] 28) = W1 at *
          go_wp2_with (go_at_call 26; refine SK1.out.mono ?_; rintro e w3 ⟨rfl, a3, g3⟩; have HY3 := Lib.hid a3; have HG3 := Lib.hid (grown_trans HG.out (grown_trans (grown_of_below BV.out (some gy)) g3)); clear a3 g3 c3 s0 s1 s2 e0)
          go_roundw
          case rel => exact ⟨k + 1, by omega, by go_num, by rw [NX.out], by rw [HGQ.out], Lib.hid (by rw [HGP.out]; exact HY3.out), HG3⟩
          case measure => simp [intOf]; omega
        · have kj : ¬ (j : Int) < (G.m : Int) := by omega
          clear c0 bs hh hh' hj
          generalize wr.alloc (.cells #[.int .i64 m, .int .i64 G.num, .int .i64 ((k : Int) + 1)] 28) = W1 at *
          go_wp2_with (go_at_call 26; refine SK1.out.mono ?_; rintro e w3 ⟨rfl, a3, g3⟩; have HY3 := Lib.hid a3; have HG3 := Lib.hid (grown_trans HG.out (grown_trans (grown_of_below BV.out (some gy)) g3)); clear a3 g3 c3 s0 s1 s2)
          go_roundw
          case rel => exact ⟨k + 1, by omega, by go_num, by rw [NX.out], by rw [HGQ.out], Lib.hid (by rw [HGP.out]; exact HY3.out), HG3⟩
          case measure => simp [intOf]; omega
    · have hk2 : k = 33 := by omega
      have kb : ¬ (k : Int) + 1 ≤ 33 := by omega
      subst hk2
      have HBr := Lib.hid (HB.out.grown HG.out HB.out.size (fun q e => by have := Option.some.inj e; omega))
      have K5 := Lib.hid (H5.out.kept HG.out (fun e => by have := Option.some.inj e; omega))
      have KX := Lib.hid (HX.out.grown HG.out (fun e => by have := Option.some.inj e; omega))
      have c3 := K5.out.cell 3 _ rfl
      rw [nx_all HRI.out]
      have tm : ((G.m : Int) == (G.m : Int)) = true := by simp
      clear hk hk33
      go_wp2_with (go_at_call 17; refine (SameBytes_true _ _ N _ _ _ (arr_part KX.out N0 (Nat.le_refl _) Nm) (arr_part HY.out N0 y3 y4) (fun _ _ => rfl)).mono ?_; rintro e v7 ⟨rfl, rfl⟩)
      go_ret
      exact ⟨rfl, HBr.out⟩
end Bl
end Go.Proofs.YtbmglemjfodfhaaGreat

namespace Go.Proofs.YtbmglemjfodfhaaGreat
open Go.RowKit Go.ChangeShapes Go.WideShapes
namespace Bl
open Bk Kd

theorem open_group {H : Type} {enc : TypeId × Value → H} {P : Program} {w : World} {base : Nat} {held : Bool} {tg ts tm tbyte : TypeId} {n0 n1 n2 n3 : Field} {te tb e tp ep : TypeId} {m0 m1 m2 m3 m4 m5 m6 f0 f1 g0 g1 : Field} {fuel : Nat} {x : DataW H × List MemPlace} {cs : Array Value}
    (hg : P.underlying tg = some (.struct #[n0, n1, n2, n3])) (cg : P.cellsOf tg = 4) (og : n0.offset = 0 ∧ n1.offset = 1 ∧ n2.offset = 2 ∧ n3.offset = 3)
    (kg : P.cellsOf n0.type = 1 ∧ P.cellsOf n1.type = 1 ∧ P.cellsOf n2.type = 1 ∧ P.cellsOf n3.type = 1) (ig0 : P.underlying n0.type = some (.int .i64)) (ig1 : P.underlying n1.type = some (.int .i64)) (hs2 : n2.type = ts) (hts : P.underlying ts = some (.slice tbyte)) (hbyte : P.underlying tbyte = some (.int .u8)) (cbyte : P.cellsOf tbyte = 1) (hs3 : n3.type = tm)
    (hs : P.underlying tm = some (.slice te)) (hm : P.underlying te = some (.struct #[m0, m1, m2, m3, m4, m5, m6])) (cm : P.cellsOf te = 7)
    (om : m0.offset = 0 ∧ m1.offset = 1 ∧ m2.offset = 2 ∧ m3.offset = 3 ∧ m4.offset = 4 ∧ m5.offset = 5 ∧ m6.offset = 6)
    (km : P.cellsOf m0.type = 1 ∧ P.cellsOf m1.type = 1 ∧ P.cellsOf m2.type = 1 ∧ P.cellsOf m3.type = 1 ∧ P.cellsOf m4.type = 1 ∧ P.cellsOf m5.type = 1 ∧ P.cellsOf m6.type = 1)
    (im : P.underlying m0.type = some (.int .i64) ∧ P.underlying m1.type = some (.int .i64) ∧ P.underlying m2.type = some (.int .i64) ∧ P.underlying m3.type = some (.int .i64) ∧ P.underlying m4.type = some (.int .i64) ∧ P.underlying m5.type = some (.int .i64)) (hb : m6.type = tb)
    (ht : P.underlying tb = some (.slice e)) (he : P.underlying e = some (.struct #[f0, f1])) (ce : P.cellsOf e = 2) (o0 : f0.offset = 0) (o1 : f1.offset = 1) (c0 : P.cellsOf f0.type = 1) (c1 : P.cellsOf f1.type = 1)
    (i0 : P.underlying f0.type = some (.int .i64)) (hp : f1.type = tp)
    (hpt : P.underlying tp = some (.slice ep)) (hpe : P.underlying ep = some (.struct #[g0, g1])) (pe : P.cellsOf ep = 2) (p0 : g0.offset = 0) (p1 : g1.offset = 1) (q0 : P.cellsOf g0.type = 1) (q1 : P.cellsOf g1.type = 1)
    (j0 : P.underlying g0.type = some (.int .i64)) (j1 : P.underlying g1.type = some (.int .i64))
    (h : DataW.trod enc P w base (fun _ => true) held fuel tg (Value.agg cs).cells.toList = some x) : ∃ (G : GB) (mvv : Value), Value.agg cs = gv G mvv ∧ G.raw w mvv := by
  subst hs2 hs3
  obtain ⟨xs, k, _, _, hl, hxl, hf⟩ := DataW.trod_struct hg h
  have hcs : (Value.agg cs).cells = cs := rfl
  rw [hcs] at hl hf
  rw [cg] at hl
  obtain ⟨z0, z1, z2, z3⟩ := og
  obtain ⟨k0, k1, k2, k3⟩ := kg
  match hq : cs.toList, hl with
  | [v0, v1, v2, v3], _ =>
    match xs, hxl with
    | [y0, y1, y2, y3], _ =>
      have t0 := hf 0 n0 rfl
      have t1 := hf 1 n1 rfl
      have t2 := hf 2 n2 rfl
      have t3 := hf 3 n3 rfl
      rw [hq] at t0 t1 t2 t3
      simp [z0, z1, z2, z3, k0, k1, k2, k3] at t0 t1 t2 t3
      obtain ⟨a0, e0, _⟩ := DataW.trod_int ig0 t0
      obtain ⟨a1, e1, _⟩ := DataW.trod_int ig1 t1
      obtain ⟨m, Ms, vb, hgs⟩ := open_gsl hs hm cm om km im hb ht he ce o0 o1 c0 c1 i0 hp hpt hpe pe p0 p1 q0 q1 j0 j1 t3
      obtain ⟨sa, sN, sc, zs, hv2, hrow⟩ : ∃ a n c zs, v2 = .slice a n c ∧ IsRow .u8 w a n c zs := by
        rcases open_ints hts hbyte cbyte t2 with ⟨hc2, _⟩ | ⟨x, l, c, zs, hc2, _, hl2, hm2, hz, _, hcell, hwz⟩
        · have hv : v2 = .slice none 0 0 := by simpa using hc2
          exact ⟨none, 0, 0, [], hv, .inl ⟨rfl, rfl, rfl, rfl⟩⟩
        · have hv : v2 = .slice (some x) l c := by simpa using hc2
          exact ⟨some x, l, c, zs, hv, .inr ⟨_, rfl, hl2, hm2, by simpa using hz, hcell, hwz⟩⟩
      refine ⟨⟨a0, a1, sa, sN, sc, fun i => zs.getD i 0, m, Ms, vb⟩, v3, ?_, hrow.sl.1, hgs⟩
      have : cs = #[v0, v1, v2, v3] := Array.toList_inj.1 hq
      rw [this]
      simp at e0 e1
      rw [e0, e1, hv2]
end Bl
end Go.Proofs.YtbmglemjfodfhaaGreat
