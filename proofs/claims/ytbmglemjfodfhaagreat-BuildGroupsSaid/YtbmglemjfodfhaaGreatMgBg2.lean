/- build.Group, whatever picture is ahead (none, too). | Groups copied. | BuildGroups: what the pictures and the group are, behind each call; two groups the same. | BuildGroups. | BuildGroups: the walk. -/
import Derived.Test.YtbmglemjfodfhaaGreatMgBm1
import Derived.Test.YtbmglemjfodfhaaGreatMgGpIn
import Derived.Test.YtbmglemjfodfhaaGreatMgPa1
import Derived.Test.YtbmglemjfodfhaaGreatMgScIn
import Derived.BigQuiet
import Derived.Deep.RegionHeld
import Derived.Deep.RegionHeld3
import Derived.OrdersHeld
set_option linter.unusedVariables false
set_option linter.unusedSimpArgs false
namespace Go.Proofs.YtbmglemjfodfhaaGreat
open Go.RowKit Go.Shelf
attribute [local go_sem] Oper.semAt_some
namespace Bl
open Bk Fr Pt Kd Bu
theorem own_sl {β : Type} {B : Nat} {v : Value} {N : Nat} {F : Nat → Int} (hb : ∀ a n c, v = .slice a n c → 0 < N → ∀ x, a = some x → x.block < B) : OwnFrom B (fun (_ : β) V => Sl .u8 V v N F) := fun s A C row h hg hr => by
  obtain ⟨a, c, rfl, _⟩ := id h
  exact Sl.grown' h hg (fun h0 y e e2 => by have := (hr _ e2.symm).1; have := hb a N c rfl h0 y e; omega)
structure G4 (w wx : World) (q : Nat) (tv : Value) (fb : Option Addr) (M fcb : Nat) (F : Nat → Int) (n num qt : Int) (sv mv : Value) : Prop where
  d1 : Boxed wx w.heap.size 30 tv
  d2 : Boxed wx (w.heap.size + 1) 30 (.slice fb M fcb)
  d3 : Boxed wx (w.heap.size + 2) 3 (.int .i64 n)
  d4 : At wx (w.heap.size + 3) #[.int .i64 num, .int .i64 qt, sv, mv] 56
  d5 : Boxed wx q 3 (.int .i64 qt)
  d6 : Below w.heap.size w wx
  d7 : Sl .u8 wx (.slice fb M fcb) M F
  d8 : w.heap.size + 4 ≤ q
  d9 : 0 < M → ∀ x, fb = some x → x.block ≠ q ∧ x.block < wx.heap.size
theorem onlyN_subP {P : Program} {Q : Exit → Act → World → Prop} {a : Act} {w : World} {c : Code} (h : c.wp P (onlyN Q) a w) : c.wp P Q a w :=
  Code.wp_mono (fun e a w h => by cases e <;> first | exact h | exact h.elim) h
def S2 (B : Nat) (n qt : Int) (W : World) : Prop := W.cell? ⟨B + 1 + 1, 0, none⟩ = some (.int .i64 n) ∧ W.cell? ⟨B + 1 + 1 + 1, 1, none⟩ = some (.int .i64 qt)
theorem S2.below {B : Nat} {n qt : Int} {W W' : World} (h : S2 B n qt W) (hb : Below W.heap.size W W') : S2 B n qt W' := ⟨(hb.cell (p := ⟨B + 1 + 1, 0, none⟩) (World.block_lt_of_cell? _ _ h.1)).trans h.1, (hb.cell (p := ⟨B + 1 + 1 + 1, 1, none⟩) (World.block_lt_of_cell? _ _ h.2)).trans h.2⟩
theorem S2.set {B b : Nat} {n qt : Int} {W : World} (h : S2 B n qt W) (v : Value) (h1 : b ≠ B + 1 + 1) (h2 : b ≠ B + 1 + 1 + 1) : S2 B n qt (W.setCell ⟨b, 0, none⟩ v) := ⟨grown_cell (Kd.grown_cell W b 0 v) (fun e => h1 (Option.some.inj e).symm) h.1, grown_cell (Kd.grown_cell W b 0 v) (fun e => h2 (Option.some.inj e).symm) h.2⟩
theorem sl_lt {k : IntKind} {w : World} {fa : Option Addr} {n c : Nat} {f : Nat → Int} (h : Sl k w (.slice fa n c) n f) (h0 : 0 < n) (x : Addr) (e : fa = some x) : x.block < w.heap.size := by
  obtain ⟨a, c', e', h1, h2, h3⟩ := h
  cases e'
  rcases h3 with ⟨h, _⟩ | ⟨b, o, e2, hb, _⟩
  · omega
  · rw [e] at e2; cases e2; exact hb
theorem sl_zero {k : IntKind} {w V : World} {v : Value} {f : Nat → Int} (h : Sl k w v 0 f) : Sl k V v 0 f := by
  obtain ⟨a, c, rfl, h1, h2, h3⟩ := h
  refine ⟨a, c, rfl, h1, h2, .inl ⟨rfl, ?_⟩⟩
  rcases h3 with ⟨_, h⟩ | ⟨b, o, rfl, _⟩
  · exact h
  · intro h; cases h
theorem g4_mk {w X : World} {q gg M c : Nat} {tv v0 : Value} {F : Nat → Int} {n num qt : Int} {sv mv : Value} (h1 : Boxed X w.heap.size 30 tv) (h2 : Boxed X (w.heap.size + 1) 30 v0) (h3 : Boxed X (w.heap.size + 2) 3 (.int .i64 n)) (h4 : At X (w.heap.size + 3) #[.int .i64 num, .int .i64 qt, sv, mv] 56) (h5 : Boxed X q 3 (.int .i64 0)) (h6 : Below w.heap.size w X) (h7 : Sl .u8 X (.slice (some ⟨gg, 0, none⟩) M c) M F) (h8 : w.heap.size + 4 ≤ q) (h9 : gg ≠ q) (h10 : w.heap.size + 4 ≤ gg) (h11 : gg < X.heap.size) :
    G4 w ((X.setCell ⟨w.heap.size + 1, 0, none⟩ (.slice (some ⟨gg, 0, none⟩) M c)).setCell ⟨q, 0, none⟩ (.int .i64 qt)) q tv (some ⟨gg, 0, none⟩) M c F n num qt sv mv := by
  have g1 := Kd.grown_cell X (w.heap.size + 1) 0 (.slice (some ⟨gg, 0, none⟩) M c)
  have g2 := Kd.grown_cell (X.setCell ⟨w.heap.size + 1, 0, none⟩ (.slice (some ⟨gg, 0, none⟩) M c)) q 0 (.int .i64 qt)
  have z1 := g1.size
  have z2 := g2.size
  refine ⟨(h1.kept g1 (fun e => by have := Option.some.inj e; omega)).kept g2 (fun e => by have := Option.some.inj e; omega), (h2.set _).kept g2 (fun e => by have := Option.some.inj e; omega), (h3.kept g1 (fun e => by have := Option.some.inj e; omega)).kept g2 (fun e => by have := Option.some.inj e; omega), (h4.kept g1 (fun e => by have := Option.some.inj e; omega)).kept g2 (fun e => by have := Option.some.inj e; omega), (h5.kept g1 (fun e => by have := Option.some.inj e; omega)).set _, ?_, ?_, h8, ?_⟩
  · exact (h6.setCell (p := ⟨w.heap.size + 1, 0, none⟩) (Nat.le_succ _) _).setCell (p := ⟨q, 0, none⟩) (by show w.heap.size ≤ q; omega) _
  · exact Sl.grown' (Sl.grown' h7 g1 (fun _ y e e2 => by cases e; have := Option.some.inj e2; simp at this; omega)) g2 (fun _ y e e2 => by cases e; have := Option.some.inj e2; simp at this; omega)
  · intro _ x e
    cases e
    exact ⟨h9, by simp; omega⟩
section
set_option maxRecDepth 100000
set_option maxHeartbeats 8000000
set_option linter.unusedVariables false
set_option linter.unusedSimpArgs false
theorem group_any (G : GB) (ma : Option Addr) (mc : Nat) (bt R tc : Nat) (fa : Option Addr) (N NF fc : Nat) (f F : Nat → Int) (n : Int) (w : World) (hms : Gsl w (.slice ma G.m mc) G.m G.Ms G.vb) (hsh : ∀ j, j < G.m → Short (G.Ms j)) (hE : gE G n N NF = 0)
    (hA : Arr w .u8 bt R f) (hR : N ≤ R) (hNc : N ≤ tc) (h0 : 0 < R) (hs : Sl .u8 w (.slice fa NF fc) NF F) (hf : ∀ i, 0 ≤ F i ∧ F i ≤ 255) (hne : 0 < NF → ∀ x, fa = some x → x.block ≠ bt) (hG : ∀ V, w.grownBy V (some bt) → Gsl V (.slice ma G.m mc) G.m G.Ms G.vb) (hbm : 0 < G.m → ∀ x, ma = some x → x.block ≠ bt) :
    Calls Tryz.prog 35 #[.slice (some ⟨bt, 0, none⟩) N tc, .slice fa NF fc, .int .i64 n, gv G (.slice ma G.m mc)] w fun e w' => e = .returned (.int .i64 0) ∧ Arr w' .u8 bt R (gP n G.num N (aN NF n) (aF NF F) f G.qt G.Ms G.m 33) ∧ w.grownBy w' (some bt) := by
  have HR := Lib.hid (fun V h => refuses_any G (.slice ma G.m mc) (some ⟨bt, 0, none⟩) fa N tc NF fc n V h hsh)
  rw [hE] at HR
  obtain ⟨M, hM⟩ : ∃ M, aN NF n = M := ⟨_, rfl⟩
  obtain ⟨FF, hFF⟩ : ∃ M, aF NF F = M := ⟨_, rfl⟩
  rw [hM, hFF]
  obtain ⟨a1, a2, a3, a4, bb⟩ := box4 w (.slice (some ⟨bt, 0, none⟩) N tc) (.slice fa NF fc) (.int .i64 n) (.int .i64 G.num) (.int .i64 G.qt) (.slice G.sa G.sN G.sc) (.slice ma G.m mc) 30 30 3 56
  have hbt := hA.lt h0
  have A1 := Lib.hid a1
  have A2 := Lib.hid a2
  have A3 := Lib.hid a3
  have A4 := Lib.hid a4
  have HB := Lib.hid bb
  have HM := Lib.hid (hms.below bb)
  have HS := Lib.hid (hs.below bb)
  have k0 := a1.cell
  have k1 := a2.cell
  have k2 := a3.cell
  have k3 := a4.cell 0 _ rfl
  have k4 := a4.cell 1 _ rfl
  have k5 := a4.cell 2 _ rfl
  have k6 := a4.cell 3 _ rfl
  have z0 : w.heap.size + 4 ≤ _ := Nat.le_of_lt_succ (Nat.lt_succ_of_le (show w.heap.size + 4 ≤ ((((w.alloc (.cells #[.slice (some ⟨bt, 0, none⟩) N tc] 30)).alloc (.cells #[.slice fa NF fc] 30)).alloc (.cells #[.int .i64 n] 3)).alloc (.cells #[.int .i64 G.num, .int .i64 G.qt, .slice G.sa G.sN G.sc, .slice ma G.m mc] 56)).heap.size by simp))
  clear bb a1 a2 a3 a4
  refine (callsIn_wide (n := 12)).1 ?_
  refine callsIn_of_wp_marks Tryz.func35 rfl trivial ?_ rfl
  simp only [Tryz.ntmps35, List.size_toArray, List.length_cons, List.length_nil, Nat.reduceAdd, Nat.reduceSub, Array.replicate_succ, Array.replicate_zero, List.push_toArray, List.append_toArray, List.nil_append, List.cons_append]
  refine wpIn_wide.2 ?_
  go_upto_region 1 with fail
  generalize (((w.alloc (.cells #[.slice (some ⟨bt, 0, none⟩) N tc] 30)).alloc (.cells #[.slice fa NF fc] 30)).alloc (.cells #[.int .i64 n] 3)).alloc (.cells #[.int .i64 G.num, .int .i64 G.qt, .slice G.sa G.sN G.sc, .slice ma G.m mc] 56) = W0 at *
  go_upto_region 4 with (go_at_call 75; refine (HR.out _ HM.out).mono ?_; rintro e w1 ⟨rfl, b1⟩; have A1 := Lib.hid (A1.out.kept (grown_of_below b1 none) (by simp)); have A2 := Lib.hid (A2.out.kept (grown_of_below b1 none) (by simp)); have A3 := Lib.hid (A3.out.kept (grown_of_below b1 none) (by simp)); have A4 := Lib.hid (A4.out.below b1); have HB := Lib.hid (chain HB.out b1); have HM := Lib.hid (HM.out.below b1); have HS := Lib.hid (HS.out.below b1); have z0 := Nat.le_trans z0 b1.size; clear b1 k0 k1 k2 k3 k4 k5 k6)
  go_cut [10] from 22 to 26 (fun p wx => ∃ q fb fcb, p = .pointer (some ⟨q, 0, none⟩) ∧ Hid (G4 w wx q (.slice (some ⟨bt, 0, none⟩) N tc) fb M fcb FF n G.num G.qt (.slice G.sa G.sN G.sc) (.slice ma G.m mc)) ∧ Hid (0 < M → ∀ x, fb = some x → x.block ≠ bt))
  case first =>
    by_cases hNF : 0 < NF
    · skip
      have HH := Lib.hid (fun V => ahead_some fa NF fc n V hNF)
      have k1 := A2.out.cell
      have k2 := A3.out.cell
      have k4 := A4.out.cell 1 _ rfl
      have y1 := A2.out.frozen
      clear k1 k2 k4 y1
      refine (wpIn_wide (n := 12)).1 ?_
      refine regionIn_stage 5 [1, 1, 1, 2, 2] (st4 w1 (w.heap.size + 1) (.slice fa NF fc) G.qt) (by kernel_rfl) (by kernel_rfl) rfl ?_
      simp only [List.take_succ_cons, List.take_zero, List.drop_succ_cons, List.drop_zero]
      have g1 : ∀ t, t ≤ 1 → (st4 w1 (w.heap.size + 1) (.slice fa NF fc) G.qt t).cell? ⟨w.heap.size + 1, 0, none⟩ = some (.slice fa NF fc) := fun t ht => (st4_box A2.out 1 (by omega) (fun h => by omega) t ht).cell
      have g2 : ∀ t, t ≤ 1 → (st4 w1 (w.heap.size + 1) (.slice fa NF fc) G.qt t).cell? ⟨w.heap.size + 1 + 1, 0, none⟩ = some (.int .i64 n) := fun t ht => (st4_box A3.out 1 (by omega) (fun h => by omega) t ht).cell
      have g4 : ∀ t, t ≤ 2 → (st4 w1 (w.heap.size + 1) (.slice fa NF fc) G.qt t).cell? ⟨w.heap.size + 1 + 1 + 1, 1, none⟩ = some (.int .i64 G.qt) := fun t ht => (st4_at A4.out (by omega) t ht).cell 1 _ rfl
      refine stage_step (.slice fa NF fc) rfl (fun t ht => (by have := g1 t ht; go_simp)) ?_
      simp only [Act.put, List.setIfInBounds_toArray, List.set_cons_zero, List.set_cons_succ]
      refine stage_step (.int .i64 n) rfl (fun t ht => (by have := g2 t ht; go_simp)) ?_
      simp only [Act.put, List.setIfInBounds_toArray, List.set_cons_zero, List.set_cons_succ]
      refine stage_step (.slice fa NF fc) rfl (fun t ht => (by go_simp; exact (HH.out _).mono (by rintro e w' ⟨rfl, rfl⟩; exact ⟨rfl, rfl⟩))) ?_
      simp only [Act.put, List.setIfInBounds_toArray, List.set_cons_zero, List.set_cons_succ]
      refine stage_step (.pointer (some ⟨w.heap.size + 1 + 1 + 1, 1, none⟩)) rfl (fun t ht => (by go_simp)) ?_
      simp only [Act.put, List.setIfInBounds_toArray, List.set_cons_zero, List.set_cons_succ]
      refine stage_step (.int .i64 G.qt) rfl (fun t ht => (by have := g4 t ht; go_simp)) ?_
      simp only [Act.put, List.setIfInBounds_toArray, List.set_cons_zero, List.set_cons_succ]
      refine tail_step rfl ⟨fun _ _ => trivial, ?_⟩
      go_simp
      refine ⟨rfl, ?_⟩
      rw [show (st4 w1 (w.heap.size + 1) (.slice fa NF fc) G.qt 0).heap.size = w1.heap.size from rfl]
      refine tail_step rfl ⟨fun _ _ => trivial, ?_⟩
      have q1 : (st4 w1 (w.heap.size + 1) (.slice fa NF fc) G.qt 1).cell? ⟨w.heap.size + 1, 0, none⟩ = some (.slice fa NF fc) := g1 1 (by omega)
      have u1 : (st4 w1 (w.heap.size + 1) (.slice fa NF fc) G.qt 1).frozen? ⟨w.heap.size + 1, 0, none⟩ = false := (st4_box (v := .slice fa NF fc) (p := w.heap.size + 1) (q := G.qt) A2.out 1 (by omega) (fun h => by omega) 1 (by omega)).frozen
      go_simp
      refine ⟨rfl, ?_⟩
      have bq : Boxed (st4 w1 (w.heap.size + 1) (.slice fa NF fc) G.qt 2) w1.heap.size 3 (.int .i64 0) := (Boxed.new w1.drew 3 (.int .i64 0)).kept (Kd.grown_cell _ _ _ _) (fun e => by have h : w1.heap.size = w.heap.size + 1 := Option.some.inj e; omega)
      refine tail_step rfl ⟨fun _ _ => trivial, ?_⟩
      have q2 := bq.cell
      have u2 := bq.frozen
      go_simp
      refine ⟨rfl, ?_⟩
      show onlyN _ Exit.normal _ _
      simp only [onlyN]
      have d1 : Boxed (st4 w1 (w.heap.size + 1) (.slice fa NF fc) G.qt 3) w.heap.size 30 (.slice (some ⟨bt, 0, none⟩) N tc) := (st4_box (v := .slice fa NF fc) (p := w.heap.size + 1) (q := G.qt) A1.out 2 (by omega) (fun _ => by omega) 2 (by omega)).kept (Kd.grown_cell _ _ _ _) (fun e => by have := Option.some.inj e; omega)
      have d2 : Boxed (st4 w1 (w.heap.size + 1) (.slice fa NF fc) G.qt 3) (w.heap.size + 1) 30 (.slice fa NF fc) := (Boxed.set (.slice fa NF fc) (st4_box (v := .slice fa NF fc) (p := w.heap.size + 1) (q := G.qt) A2.out 1 (by omega) (fun h => by omega) 1 (by omega))).kept (Kd.grown_cell _ _ _ _) (fun e => by have := Option.some.inj e; omega)
      have d3 : Boxed (st4 w1 (w.heap.size + 1) (.slice fa NF fc) G.qt 3) (w.heap.size + 2) 3 (.int .i64 n) := (st4_box (v := .slice fa NF fc) (p := w.heap.size + 1) (q := G.qt) A3.out 2 (by omega) (fun _ => by omega) 2 (by omega)).kept (Kd.grown_cell _ _ _ _) (fun e => by have := Option.some.inj e; omega)
      have d4 : At (st4 w1 (w.heap.size + 1) (.slice fa NF fc) G.qt 3) (w.heap.size + 3) #[.int .i64 G.num, .int .i64 G.qt, .slice G.sa G.sN G.sc, .slice ma G.m mc] 56 := (st4_at (v := .slice fa NF fc) (p := w.heap.size + 1) (q := G.qt) A4.out (by omega) 2 (by omega)).kept (Kd.grown_cell _ _ _ _) (fun e => by have := Option.some.inj e; omega)
      have d5 : Boxed (st4 w1 (w.heap.size + 1) (.slice fa NF fc) G.qt 3) w1.heap.size 3 (.int .i64 G.qt) := bq.set _
      have d6 : Below w.heap.size w (st4 w1 (w.heap.size + 1) (.slice fa NF fc) G.qt 3) := ((HB.out.drew.alloc HB.out.size (.cells #[.int .i64 0] 3)).setCell (p := ⟨w.heap.size + 1, 0, none⟩) (Nat.le_succ _) (.slice fa NF fc)).setCell (p := ⟨w1.heap.size, 0, none⟩) HB.out.size (.int .i64 G.qt)
      have z5 : w1.heap.size < (st4 w1 (w.heap.size + 1) (.slice fa NF fc) G.qt 3).heap.size := d5.lt
      go_wp2_with fail
      go_meet
      exact ⟨w1.heap.size, fa, fc, rfl, Lib.hid ⟨d1, by rw [← hM, show aN NF n = NF from if_neg (by omega)]; exact d2, d3, d4, d5, d6, by rw [← hM, ← hFF, show aN NF n = NF from if_neg (by omega), show aF NF F = F from if_neg (by omega)]; exact hs.below d6, by omega, fun h0 x e => by have h5 := sl_lt hs hNF x e; have h6 := d6.size; exact ⟨by omega, by omega⟩⟩, Lib.hid (fun h0 => hne hNF)⟩
    · have hN0 : NF = 0 := by omega
      subst hN0
      have hn01 : n = 0 ∨ n = 1 := by
        refine Classical.byContradiction fun h => ?_
        unfold gE at hE
        rw [if_pos (by unfold fE; rw [if_neg h]; decide)] at hE
        unfold fE at hE
        rw [if_neg h] at hE
        omega
      have hM8 := (Pa.gry_in hn01).2.1
      have hM0 : M = Pa.gryN n := by rw [← hM]; exact if_pos rfl
      have HH : Hid (∀ V, Calls Tryz.prog 46 #[.slice fa 0 fc, .int .i64 n] V fun e w' => ∃ gg c, e = .returned (.slice (some ⟨gg, 0, none⟩) M c) ∧ V.heap.size ≤ gg ∧ gg < w'.heap.size ∧ Sl .u8 w' (.slice (some ⟨gg, 0, none⟩) M c) M FF ∧ Below V.heap.size V w') := Lib.hid (fun V => by
        refine (ahead_any fa 0 fc F n V (sl_zero hs)).mono ?_
        rintro e w' ⟨v, rfl, hv, hr, hb⟩
        rw [hM, hFF] at hv hr
        rcases hr with h | h
        · obtain ⟨_, _, e, h1, _⟩ := hv
          rw [h] at e
          injection e with e1 e2 e3
          omega
        · rcases h with ⟨h, _⟩ | ⟨gg, c, rfl, r1, r2, r3⟩
          · omega
          · exact ⟨gg, c, rfl, r1, r2, hv, hb⟩)
      have hgb : ∀ gg : Nat, w1.heap.size ≤ gg → bt < gg := fun gg h => by omega
      have HGB := Lib.hid hgb
      clear hgb hms hsh hE hA hs hf hne hG hbm hn01 hM8 hM0 HM HS HR hNF
      refine onlyN_subP ?_
      have k2 := A3.out.cell
      have k4 := A4.out.cell 1 _ rfl
      refine wp_region_held_drew (S := S2 w.heap.size n G.qt) (by kernel_rfl) ⟨k2, k4⟩ (fun hS => ?_)
      refine wpAnyH_take (i := 1) (oi := _) (v := .int .i64 n) rfl (by kernel_rfl) (by kernel_rfl) (by kernel_rfl) (fun _ _ _ h => h) (Or.inl ⟨by rfl, fun w hw => by have := hw.1; go_simp⟩) hS ?_
      simp only [Act.put, List.setIfInBounds_toArray, List.set_cons_zero, List.set_cons_succ]
      refine wpAnyH_take (i := 3) (oi := _) (v := .pointer (some ⟨w.heap.size + 1 + 1 + 1, 1, none⟩)) rfl (by kernel_rfl) (by kernel_rfl) (by kernel_rfl) (fun _ _ _ h => h) (Or.inl ⟨by rfl, fun w hw => by go_simp⟩) hS ?_
      simp only [Act.put, List.setIfInBounds_toArray, List.set_cons_zero, List.set_cons_succ]
      refine wpAnyH_take (i := 4) (oi := _) (v := .int .i64 G.qt) rfl (by kernel_rfl) (by kernel_rfl) (by kernel_rfl) (fun _ _ _ h => h) (Or.inl ⟨by rfl, fun w hw => by have := hw.2; go_simp⟩) hS ?_
      simp only [Act.put, List.setIfInBounds_toArray, List.set_cons_zero, List.set_cons_succ]
      clear k2 k4
      refine wpAnyH_ready (rs := [0, 5]) (by kernel_rfl) (by simp) ?_
      refine AllReadyH.cons (o := _) rfl (fun K hK => ?_) ?_
      · skip
        have ka := A2.out.cell
        go_simp
        refine hK.out _ _ hS (fun hS => ?_)
        clear hK K ka
        try simp only [Act.put, List.setIfInBounds_toArray, List.set_cons_zero, List.set_cons_succ]
        refine wpAnyH_ready (rs := [2, 5]) (by kernel_rfl) (by simp) ?_
        refine AllReadyH.cons (o := _) rfl (fun K hK => ?_) ?_
        · skip
          go_simp
          go_at_call 46
          refine (HH.out _).mono ?_
          rintro e w5 ⟨gg, c5, rfl, g1, g2, g3, b5⟩
          refine hK.out _ _ (hS.below b5) (fun hS => ?_)
          clear hK K
          try simp only [Act.put, List.setIfInBounds_toArray, List.set_cons_zero, List.set_cons_succ]
          refine wpAnyH_ready (rs := [5]) (by kernel_rfl) (by simp) ?_
          refine AllReadyH.cons (o := _) rfl (fun K hK => ?_) AllReadyH.nil
          go_simp
          refine hK.out _ _ (hS.below ((Below.refl _ _).alloc (Nat.le_refl _) _)) (fun hS => ?_)
          clear hK K
          try simp only [Act.put, List.setIfInBounds_toArray, List.set_cons_zero, List.set_cons_succ]
          have HBX := chain ((Below.refl w1.heap.size w1).drew) (chain b5 ((Below.refl w5.heap.size w5).alloc (Nat.le_refl _) (.cells #[.int .i64 0] 3)))
          have BQ := Boxed.new w5 3 (.int .i64 0)
          have GS := g3.below ((Below.refl w5.heap.size w5).alloc (Nat.le_refl _) (.cells #[.int .i64 0] 3))
          have zz : w1.heap.size ≤ w5.heap.size := b5.size
          have gne : gg ≠ w5.heap.size := by omega
          have glt : gg < (w5.alloc (.cells #[.int .i64 0] 3)).heap.size := by simp; omega
          have gge : w1.heap.size ≤ gg := g1
          generalize hX : w5.alloc (.cells #[.int .i64 0] 3) = X at *
          have X1 := A1.out.kept (grown_of_below HBX none) (by simp)
          have X2 := A2.out.kept (grown_of_below HBX none) (by simp)
          have X3 := A3.out.kept (grown_of_below HBX none) (by simp)
          have X4 := A4.out.below HBX
          have EG := g4_mk (qt := G.qt) X1 X2 X3 X4 BQ (chain HB.out HBX) GS (by omega) gne (by omega) glt
          have xc := X2.cell
          have xf := X2.frozen
          refine wpAnyH_ready (rs := [6]) (by kernel_rfl) (by simp) ?_
          refine AllReadyH.cons (o := _) rfl (fun K hK => ?_) AllReadyH.nil
          go_simp
          refine hK.out _ _ (hS.set _ (by omega) (by omega)) (fun hS => ?_)
          clear hK K
          try simp only [Act.put, List.setIfInBounds_toArray, List.set_cons_zero, List.set_cons_succ]
          have BQ2 := BQ.kept (Kd.grown_cell X (w.heap.size + 1) 0 (.slice (some ⟨gg, 0, none⟩) M c5)) (fun e => by have := Option.some.inj e; omega)
          have yc := BQ2.cell
          have yf := BQ2.frozen
          refine wpAnyH_ready (rs := [7]) (by kernel_rfl) (by simp) ?_
          refine AllReadyH.cons (o := _) rfl (fun K hK => ?_) AllReadyH.nil
          go_simp
          refine hK.out _ _ (hS.set _ (by omega) (by omega)) (fun hS => ?_)
          clear hK K
          try simp only [Act.put, List.setIfInBounds_toArray, List.set_cons_zero, List.set_cons_succ]
          refine wpAnyH_done (by kernel_rfl) ?_ _
          show onlyN _ Exit.normal _ _
          simp only [onlyN]
          clear xc xf yc yf hS
          go_wp2_with fail
          go_meet
          exact ⟨_, _, _, rfl, Lib.hid EG, Lib.hid (fun _ x e => by cases e; have := HGB.out gg gge; simp; omega)⟩
        refine AllReadyH.cons (o := _) rfl (fun K hK => ?_) AllReadyH.nil
        go_simp
        refine hK.out _ _ (hS.below ((Below.refl _ _).alloc (Nat.le_refl _) _)) (fun hS => ?_)
        clear hK K
        try simp only [Act.put, List.setIfInBounds_toArray, List.set_cons_zero, List.set_cons_succ]
        refine wpAnyH_ready (rs := [2]) (by kernel_rfl) (by simp) ?_
        refine AllReadyH.cons (o := _) rfl (fun K hK => ?_) AllReadyH.nil
        go_simp
        go_at_call 46
        refine (HH.out _).mono ?_
        rintro e w5 ⟨gg, c5, rfl, g1, g2, g3, b5⟩
        refine hK.out _ _ (hS.below b5) (fun hS => ?_)
        clear hK K
        try simp only [Act.put, List.setIfInBounds_toArray, List.set_cons_zero, List.set_cons_succ]
        have HBX := chain (((Below.refl w1.heap.size w1).drew).alloc (Nat.le_refl _) (.cells #[.int .i64 0] 3)) b5
        have BQ : Boxed w5 w1.heap.size 3 (.int .i64 0) := (Boxed.new w1.drew 3 (.int .i64 0)).kept (grown_of_below b5 none) (by simp)
        have GS := g3
        have gge : w1.heap.size ≤ gg := by have h := g1; simp at h; omega
        have gne : gg ≠ w1.heap.size := by have h := g1; simp at h; omega
        have glt := g2
        generalize hX : w5 = X at *
        have X1 := A1.out.kept (grown_of_below HBX none) (by simp)
        have X2 := A2.out.kept (grown_of_below HBX none) (by simp)
        have X3 := A3.out.kept (grown_of_below HBX none) (by simp)
        have X4 := A4.out.below HBX
        have EG := g4_mk (qt := G.qt) X1 X2 X3 X4 BQ (chain HB.out HBX) GS (by omega) gne (by omega) glt
        have xc := X2.cell
        have xf := X2.frozen
        refine wpAnyH_ready (rs := [6]) (by kernel_rfl) (by simp) ?_
        refine AllReadyH.cons (o := _) rfl (fun K hK => ?_) AllReadyH.nil
        go_simp
        refine hK.out _ _ (hS.set _ (by omega) (by omega)) (fun hS => ?_)
        clear hK K
        try simp only [Act.put, List.setIfInBounds_toArray, List.set_cons_zero, List.set_cons_succ]
        have BQ2 := BQ.kept (Kd.grown_cell X (w.heap.size + 1) 0 (.slice (some ⟨gg, 0, none⟩) M c5)) (fun e => by have := Option.some.inj e; omega)
        have yc := BQ2.cell
        have yf := BQ2.frozen
        refine wpAnyH_ready (rs := [7]) (by kernel_rfl) (by simp) ?_
        refine AllReadyH.cons (o := _) rfl (fun K hK => ?_) AllReadyH.nil
        go_simp
        refine hK.out _ _ (hS.set _ (by omega) (by omega)) (fun hS => ?_)
        clear hK K
        try simp only [Act.put, List.setIfInBounds_toArray, List.set_cons_zero, List.set_cons_succ]
        refine wpAnyH_done (by kernel_rfl) ?_ _
        show onlyN _ Exit.normal _ _
        simp only [onlyN]
        clear xc xf yc yf hS
        go_wp2_with fail
        go_meet
        exact ⟨_, _, _, rfl, Lib.hid EG, Lib.hid (fun _ x e => by cases e; have := HGB.out gg gge; simp; omega)⟩
      refine AllReadyH.cons (o := _) rfl (fun K hK => ?_) AllReadyH.nil
      go_simp
      refine hK.out _ _ (hS.below ((Below.refl _ _).alloc (Nat.le_refl _) _)) (fun hS => ?_)
      clear hK K
      try simp only [Act.put, List.setIfInBounds_toArray, List.set_cons_zero, List.set_cons_succ]
      refine wpAnyH_ready (rs := [0]) (by kernel_rfl) (by simp) ?_
      refine AllReadyH.cons (o := _) rfl (fun K hK => ?_) AllReadyH.nil
      have ka : (w1.drew.alloc (.cells #[.int .i64 0] 3)).cell? ⟨w.heap.size + 1, 0, none⟩ = some (.slice fa 0 fc) := (A2.out.kept (grown_of_below (((Below.refl w1.heap.size w1).drew).alloc (Nat.le_refl _) (.cells #[.int .i64 0] 3)) none) (by simp)).cell
      have ka' : ((w1.alloc (.cells #[.int .i64 0] 3)).drew).cell? ⟨w.heap.size + 1, 0, none⟩ = some (.slice fa 0 fc) := ka
      go_simp
      refine hK.out _ _ hS (fun hS => ?_)
      clear hK K ka
      try simp only [Act.put, List.setIfInBounds_toArray, List.set_cons_zero, List.set_cons_succ]
      refine wpAnyH_ready (rs := [2]) (by kernel_rfl) (by simp) ?_
      refine AllReadyH.cons (o := _) rfl (fun K hK => ?_) AllReadyH.nil
      go_simp
      go_at_call 46
      refine (HH.out _).mono ?_
      rintro e w5 ⟨gg, c5, rfl, g1, g2, g3, b5⟩
      refine hK.out _ _ (hS.below b5) (fun hS => ?_)
      clear hK K
      try simp only [Act.put, List.setIfInBounds_toArray, List.set_cons_zero, List.set_cons_succ]
      have HBX := chain (((Below.refl w1.heap.size w1).drew).alloc (Nat.le_refl _) (.cells #[.int .i64 0] 3)) b5
      have BQ : Boxed w5 w1.heap.size 3 (.int .i64 0) := (Boxed.new w1.drew 3 (.int .i64 0)).kept (grown_of_below b5 none) (by simp)
      have GS := g3
      have gge : w1.heap.size ≤ gg := by have h := g1; simp at h; omega
      have gne : gg ≠ w1.heap.size := by have h := g1; simp at h; omega
      have glt := g2
      generalize hX : w5 = X at *
      have X1 := A1.out.kept (grown_of_below HBX none) (by simp)
      have X2 := A2.out.kept (grown_of_below HBX none) (by simp)
      have X3 := A3.out.kept (grown_of_below HBX none) (by simp)
      have X4 := A4.out.below HBX
      have EG := g4_mk (qt := G.qt) X1 X2 X3 X4 BQ (chain HB.out HBX) GS (by omega) gne (by omega) glt
      have xc := X2.cell
      have xf := X2.frozen
      refine wpAnyH_ready (rs := [6]) (by kernel_rfl) (by simp) ?_
      refine AllReadyH.cons (o := _) rfl (fun K hK => ?_) AllReadyH.nil
      go_simp
      refine hK.out _ _ (hS.set _ (by omega) (by omega)) (fun hS => ?_)
      clear hK K
      try simp only [Act.put, List.setIfInBounds_toArray, List.set_cons_zero, List.set_cons_succ]
      have BQ2 := BQ.kept (Kd.grown_cell X (w.heap.size + 1) 0 (.slice (some ⟨gg, 0, none⟩) M c5)) (fun e => by have := Option.some.inj e; omega)
      have yc := BQ2.cell
      have yf := BQ2.frozen
      refine wpAnyH_ready (rs := [7]) (by kernel_rfl) (by simp) ?_
      refine AllReadyH.cons (o := _) rfl (fun K hK => ?_) AllReadyH.nil
      go_simp
      refine hK.out _ _ (hS.set _ (by omega) (by omega)) (fun hS => ?_)
      clear hK K
      try simp only [Act.put, List.setIfInBounds_toArray, List.set_cons_zero, List.set_cons_succ]
      refine wpAnyH_done (by kernel_rfl) ?_ _
      show onlyN _ Exit.normal _ _
      simp only [onlyN]
      clear xc xf yc yf hS
      go_wp2_with fail
      go_meet
      exact ⟨_, _, _, rfl, Lib.hid EG, Lib.hid (fun _ x e => by cases e; have := HGB.out gg gge; simp; omega)⟩
  case rest =>
  obtain ⟨q, fb, fcb, rfl, HG4, hneB'⟩ := hcut
  have hneB := hneB'.out
  obtain ⟨d1, d2, d3, d4, d5, d6, d7, d8, d9⟩ := HG4.out
  have z5 := d5.lt
  have hf' : ∀ i, 0 ≤ FF i ∧ FF i ≤ 255 := fun i => by
    rw [← hFF]
    unfold aF
    split
    · exact ⟨(by decide : (0 : Int) ≤ 128), (by decide : (128 : Int) ≤ 255)⟩
    · exact hf i
  clear A1 A2 A3 A4 HB HM HS HR hneB' HG4
  have c7 := d4.cell 3 _ rfl
  go_wp2_with (go_at_call 76; refine ((callsIn_wide (n := 12)).1 (places_in _ ma G.m mc rfl 12 _)).mono ?_; rintro e w6 ⟨rfl, rfl⟩)
  have b6 := (Below.refl wc.heap.size wc).alloc (Nat.le_refl _) (.cells #[.slice ma G.m mc] 54)
  have e1 := d1.kept (grown_of_below b6 none) (by simp)
  have e2 := d2.kept (grown_of_below b6 none) (by simp)
  have e3 := d3.kept (grown_of_below b6 none) (by simp)
  have e4 := d4.below b6
  have e5 := d5.kept (grown_of_below b6 none) (by simp)
  have e6 := chain d6 b6
  have eL := Boxed.new wc 54 (.slice ma G.m mc)
  have z6 : wc.heap.size < (wc.alloc (.cells #[.slice ma G.m mc] 54)).heap.size := by simp
  generalize wc.alloc (.cells #[.slice ma G.m mc] 54) = W6 at *
  have e8 := d7.below b6
  clear c7 d1 d2 d3 d4 d5 d7 b6
  obtain ⟨b, o, hbo, hbl, hbt2, hcell⟩ : ∃ b o, (0 < G.m → ma = some ⟨b, o, none⟩) ∧ b ≤ w.heap.size ∧ b ≠ bt ∧ ∀ j, j < G.m → W6.cell? ⟨b, o + j * 7, none⟩ = some (.int .i64 (G.Ms j).ad) := by
    obtain ⟨a', c', ev, p1, p2, p3⟩ := hms.below e6
    cases ev
    rcases p3 with h | ⟨b, o, rfl, hI⟩
    · exact ⟨w.heap.size, 0, fun h2 => by omega, Nat.le_refl _, by omega, fun j hj => by omega⟩
    · by_cases h : G.m = 0
      · exact ⟨w.heap.size, 0, fun h2 => by omega, Nat.le_refl _, by omega, fun j hj => by omega⟩
      · refine ⟨b, o, fun _ => rfl, ?_, hbm (by omega) _ rfl, fun j hj => (hI j hj).1 0 (by omega)⟩
        obtain ⟨a2, c2, ev2, q1, q2, q3⟩ := hms
        cases ev2
        rcases q3 with h3 | ⟨b3, o3, e3, hI3⟩
        · omega
        · cases e3
          have := World.block_lt_of_cell? _ _ ((hI3 0 (by omega)).1 0 (by omega))
          simp at this
          omega
  have hmc : G.m ≤ mc ∧ mc ≤ maxLen := by
    obtain ⟨a', c', ev, p1, p2, p3⟩ := hms
    cases ev
    exact ⟨p1, p2⟩
  refine (wpIn_wide (n := 12)).1 ?_
  refine rangeB (gf := 124) (lb := #[.pointer (some ⟨wc.heap.size, 0, none⟩)]) rfl (enters_of Tryz.func124 (by kernel_rfl) rfl)
    (places_seq _ ma b o G.m mc G.Ms rfl hbo hmc.1 hmc.2 11 (by decide) wc.heap.size wc.heap.size (Nat.le_refl _) (by omega) W6 (by omega) eL hcell) (by omega) kpM_t kpM_l (fun _ => rfl)
    (fun pre V => Arr V .u8 bt R (gS n G.num N M FF f G.qt G.Ms G.m pre).2 ∧ Boxed V q 3 (.int .i64 (gS n G.num N M FF f G.qt G.Ms G.m pre).1) ∧ Boxed V w.heap.size 30 (.slice (some ⟨bt, 0, none⟩) N tc) ∧ Boxed V (w.heap.size + 1) 30 (.slice fb M fcb) ∧ Boxed V (w.heap.size + 2) 3 (.int .i64 n) ∧ At V (w.heap.size + 3) #[.int .i64 G.num, .int .i64 G.qt, .slice G.sa G.sN G.sc, .slice ma G.m mc] 56 ∧ w.grownBy V (some bt) ∧ Sl .u8 V (.slice fb M fcb) M FF)
    (fun c pre V => False)
    ?own
    (fun c => fun s A C row h hg hr => h.elim)
    ?keep
    ⟨hA.below e6 hbt, e5, e1, e2, e3, e4, grown_of_below e6 _, e8⟩
    (fun x a' V => a' = { tmps := #[.slice (some ⟨bt, 0, none⟩) N tc, .slice fa NF fc, .int .i64 n, gv G (.slice ma G.m mc), .pointer (some ⟨w.heap.size, 0, none⟩), .pointer (some ⟨w.heap.size + 1, 0, none⟩), .pointer (some ⟨w.heap.size + 1 + 1, 0, none⟩), .pointer (some ⟨w.heap.size + 1 + 1 + 1, 0, none⟩), .int .i64 0, .int .i64 0, .pointer (some ⟨q, 0, none⟩), .int .i64 ((x.val : Int) + 1), ptr b o G.Ms G.m x.val, undef, .slice (some ⟨bt, 0, none⟩) N tc, .slice fa NF fc, .int .i64 n, .agg #[.int .i64 G.num, .int .i64 G.qt, .slice G.sa G.sN G.sc, .slice ma G.m mc], .int .i64 0, .int .i64 0, .bool false, undef, u22, u23, u24, u25, u26, .pointer (some ⟨w.heap.size + 1 + 1 + 1, 3, none⟩), .slice ma G.m mc, .func (.func 124) #[] #[.pointer (some ⟨wc.heap.size, 0, none⟩)], .int .i64 ((x.val : Int) + 1), ptr b o G.Ms G.m x.val, undef, undef, undef, undef, undef, undef, undef, undef, undef, undef, undef, undef, undef, undef, undef, undef, undef, undef, undef, undef, undef, undef, undef, undef, undef, undef, undef, undef], defers := [] })
    (fun x a' => fun s A C row h hg hr => h)
    ?assign ?body ?done ?stop
  case own => exact OwnFrom.and (Pa.own_arr (by omega) (fun pre => (gS n G.num N M FF f G.qt G.Ms G.m pre).2)) (OwnFrom.and (Own.from (boxed_own _ _ (fun pre => .int .i64 (gS n G.num N M FF f G.qt G.Ms G.m pre).1)) _) (OwnFrom.and (Own.from (boxed_own _ _ (fun _ => _)) _) (OwnFrom.and (Own.from (boxed_own _ _ (fun _ => _)) _) (OwnFrom.and (Own.from (boxed_own _ _ (fun _ => _)) _) (OwnFrom.and (Own.from (obj_own _ _ rfl) _) (OwnFrom.and (Pa.own_grown (some bt) (by have := d6.size; omega)) (own_sl (fun a n c e h0 x ex => by cases e; have := (d9 h0 x ex).2; omega))))))))
  case keep =>
    rintro pre A C ⟨h1, h2, h3, h4, h5, h6, h7, h8⟩ hg
    have hz := d6.size
    exact ⟨h1.grown hg (fun e => by have := Option.some.inj e; omega), h2.kept hg (fun e => by have := Option.some.inj e; omega), h3.kept hg (fun e => by have := Option.some.inj e; omega), h4.kept hg (fun e => by have := Option.some.inj e; omega), h5.kept hg (fun e => by have := Option.some.inj e; omega), h6.kept hg (fun e => by have := Option.some.inj e; omega), grown_by2 h7 hg hz, Sl.grown' h8 hg (fun h0 y e e2 => by have := (d9 h0 y e).2; have := Option.some.inj e2; omega)⟩
  case assign =>
    rintro l pre x V K sV hl ⟨h1, h2, h3, h4, h5, h6, h7, h8⟩ hK
    dsimp only [encG]
    gi_wp2
    exact hK _ _ (KeepsFrom.refl _ _) (kpM_refl V) ⟨h1, h2, h3, h4, h5, h6, h7, h8⟩ rfl
  case body =>
    rintro l pre x a' V hl ⟨r, hr⟩ ⟨h1, h2, h3, h4, h5, h6, h7, h8⟩ rfl hlt
    obtain ⟨k, hk⟩ : ∃ k : Nat, x.val = k := ⟨_, rfl⟩
    obtain ⟨q0, hq0⟩ : ∃ q, (gS n G.num N M FF f G.qt G.Ms G.m pre).1 = q := ⟨_, rfl⟩
    obtain ⟨f0, hf0⟩ : ∃ g, (gS n G.num N M FF f G.qt G.Ms G.m pre).2 = g := ⟨_, rfl⟩
    rw [hq0] at h2
    rw [hf0] at h1
    have hGV := hG V h7
    have hSV := h8
    have c1 := h3.cell
    have c2 := h4.cell
    have c3 := h5.cell
    have c4 := h6.cell 0 _ rfl
    have c5 := h2.cell
    have f5 := h2.frozen
    have zw := h7.size
    have lt2 : q < V.heap.size := h2.lt
    have lt6 : w.heap.size + 3 < V.heap.size := h6.lt
    have H1 := Lib.hid h1
    have H2 := Lib.hid h2
    have H3 := Lib.hid h3
    have H4 := Lib.hid h4
    have H5 := Lib.hid h5
    have H6 := Lib.hid h6
    have H7 := Lib.hid h7
    have HSV := Lib.hid hSV
    have bs := (Below.refl V.heap.size V).alloc (Nat.le_refl _) (.cells #[.int .i64 n, .int .i64 G.num, .int .i64 ((k : Int) + 1)] 28)
    have HSP : Hid (At _ _ _ _) := Lib.hid (At.new V #[.int .i64 n, .int .i64 G.num, .int .i64 ((k : Int) + 1)] 28)
    have hbV : bt < V.heap.size := h1.lt h0
    by_cases hh : hitB G.Ms G.m (nx G.Ms G.m k) k = true
    · obtain ⟨hjm, had⟩ := hitB_iff.1 hh
      obtain rfl := hbo (by omega)
      have PT : ptr b o G.Ms G.m k = .pointer (some ⟨b, o + nx G.Ms G.m k * 7, none⟩) := if_pos hh
      have ST := Lib.hid (gS_hit (n := n) (num := G.num) (N := N) (NF := M) (F := FF) (f := f) (qt := G.qt) (pre := pre) (x := x) (by rw [hk]; exact hh))
      obtain ⟨a'', c'', ev, p1, p2, p3⟩ := hGV
      cases ev
      rcases p3 with h | ⟨b', o', e, hI⟩
      · omega
      cases e
      obtain ⟨hc, hraw⟩ := hI (nx G.Ms G.m k) hjm
      rw [hk, hq0, hf0] at ST
      obtain ⟨j, hj⟩ : ∃ j, nx G.Ms G.m k = j := ⟨_, rfl⟩
      rw [hj] at hjm had PT hc hraw ST
      rw [hk, PT]
      obtain ⟨va, vc, hvk, _, _, _⟩ := id hraw
      rw [hvk] at hraw
      have e0 : V.cell? ⟨b, o + j * 7, none⟩ = some (.int .i64 (G.Ms j).ad) := hc 0 (by omega)
      have e1 : V.cell? ⟨b, o + j * 7 + 1, none⟩ = some (.int .i64 (G.Ms j).kd) := hc 1 (by omega)
      have e2 : V.cell? ⟨b, o + j * 7 + 2, none⟩ = some (.int .i64 (G.Ms j).qt) := hc 2 (by omega)
      have e3 : V.cell? ⟨b, o + j * 7 + 3, none⟩ = some (.int .i64 (G.Ms j).x) := hc 3 (by omega)
      have e4 : V.cell? ⟨b, o + j * 7 + 4, none⟩ = some (.int .i64 (G.Ms j).y) := hc 4 (by omega)
      have e5 : V.cell? ⟨b, o + j * 7 + 5, none⟩ = some (.int .i64 (G.Ms j).pt) := hc 5 (by omega)
      have e6 : V.cell? ⟨b, o + j * 7 + 6, none⟩ = some (.slice va (G.Ms j).m vc) := by rw [← hvk]; exact hc 6 (by omega)
      have HMA := Lib.hid ((hsh j hjm).at hraw)
      clear hc hI PT hh hl hr h1 h2 h3 h4 h5 h6 h7 h8 hSV had
      gi_upto_region 9 with fail
      have e0 := (bs.cell (p := ⟨b, o + j * 7, none⟩) (World.block_lt_of_cell? _ _ e0)).trans e0
      have e1 := (bs.cell (p := ⟨b, o + j * 7 + 1, none⟩) (World.block_lt_of_cell? _ _ e1)).trans e1
      have e2 := (bs.cell (p := ⟨b, o + j * 7 + 2, none⟩) (World.block_lt_of_cell? _ _ e2)).trans e2
      have e3 := (bs.cell (p := ⟨b, o + j * 7 + 3, none⟩) (World.block_lt_of_cell? _ _ e3)).trans e3
      have e4 := (bs.cell (p := ⟨b, o + j * 7 + 4, none⟩) (World.block_lt_of_cell? _ _ e4)).trans e4
      have e5 := (bs.cell (p := ⟨b, o + j * 7 + 5, none⟩) (World.block_lt_of_cell? _ _ e5)).trans e5
      have e6 := (bs.cell (p := ⟨b, o + j * 7 + 6, none⟩) (World.block_lt_of_cell? _ _ e6)).trans e6
      have H1 := Lib.hid (H1.out.below bs hbV)
      have H2 := Lib.hid (H2.out.kept (grown_of_below bs none) (by simp))
      have H3 := Lib.hid (H3.out.kept (grown_of_below bs none) (by simp))
      have H4 := Lib.hid (H4.out.kept (grown_of_below bs none) (by simp))
      have H5 := Lib.hid (H5.out.kept (grown_of_below bs none) (by simp))
      have H6 := Lib.hid (H6.out.below bs)
      have H7 := Lib.hid (grown_trans H7.out (grown_of_below bs (some bt)))
      have HSV := Lib.hid (HSV.out.below bs)
      have HMA := Lib.hid (HMA.out.below bs)
      have zV := bs.size
      clear c1 c2 c3 c4 c5 f5 hraw
      have c1 := H3.out.cell
      have c2 := H4.out.cell
      have c5 := H2.out.cell
      have f5 := H2.out.frozen
      have KK := Lib.hid (kpB_below (B := wc.heap.size) (b := b) bs)
      have hbV1 : b < V.heap.size := by omega
      have hMaG : ∀ X : World, w.grownBy X (some bt) → (G.Ms j).at X (.slice va (G.Ms j).m vc) := fun X hX => by
        obtain ⟨_, _, ev, _, _, p3⟩ := hG X hX
        cases ev
        rcases p3 with h | ⟨_, _, _, hI⟩
        · omega
        · have := (hsh j hjm).at (hI j hjm).2
          rwa [hvk] at this
      have zq : q < V.heap.size := by omega
      generalize V.alloc (.cells #[.int .i64 n, .int .i64 G.num, .int .i64 ((k : Int) + 1)] 28) = V1 at *
      by_cases hq : 0 < (G.Ms j).qt
      · skip
        have gq := Kd.grown_cell V1 q 0 (.int .i64 (G.Ms j).qt)
        have K2 := Lib.hid (kpB_t (KK.out) (kpB_some (B := wc.heap.size) (b := b) gq (by omega) (by omega)))
        have H1 := Lib.hid (H1.out.grown gq (fun e => by have := Option.some.inj e; omega))
        have H2 := Lib.hid (H2.out.set (.int .i64 (G.Ms j).qt))
        have H3 := Lib.hid (H3.out.kept gq (fun e => by have := Option.some.inj e; omega))
        have H4 := Lib.hid (H4.out.kept gq (fun e => by have := Option.some.inj e; omega))
        have H5 := Lib.hid (H5.out.kept gq (fun e => by have := Option.some.inj e; omega))
        have H6 := Lib.hid (H6.out.kept gq (fun e => by have := Option.some.inj e; omega))
        have HSP := Lib.hid (HSP.out.kept gq (fun e => by have := Option.some.inj e; omega))
        have H7 := Lib.hid (grown_by2 H7.out gq (by omega))
        have HSV := Lib.hid (Sl.grown' HSV.out gq (fun h0 y e e2 => (d9 h0 y e).1 (Option.some.inj e2)))
        have HMA := Lib.hid (hMaG _ H7.out)
        have x0 := grown_cell gq (fun e => by have := Option.some.inj e; omega) e0
        have x1 := grown_cell gq (fun e => by have := Option.some.inj e; omega) e1
        have x2 := grown_cell gq (fun e => by have := Option.some.inj e; omega) e2
        have x3 := grown_cell gq (fun e => by have := Option.some.inj e; omega) e3
        have x4 := grown_cell gq (fun e => by have := Option.some.inj e; omega) e4
        have x5 := grown_cell gq (fun e => by have := Option.some.inj e; omega) e5
        have x6 := grown_cell gq (fun e => by have := Option.some.inj e; omega) e6
        clear gq
        gi_upto_region 13 with fail
        clear e0 e1 e2 e3 e4 e5 e6 c1 c2 c5 f5 KK
        generalize V1.setCell ⟨q, 0, none⟩ (.int .i64 (G.Ms j).qt) = V2 at *
        have y0 := Past.cell x0
        have y1 := Past.cell x1
        have y2 := Past.cell x2
        have y3 := Past.cell x3
        have y4 := Past.cell x4
        have y5 := Past.cell x5
        have y6 := Past.cell x6
        have y7 := Past.cell H3.out.cell
        have y8 := Past.cell H4.out.cell
        have y9 := Past.cell H2.out.cell
        have y10 := Past.cell (show V2.cell? ⟨V.heap.size, 0, none⟩ = some (.int .i64 n) from HSP.out.cell 0 _ rfl)
        have y11 := Past.cell (show V2.cell? ⟨V.heap.size, 1, none⟩ = some (.int .i64 G.num) from HSP.out.cell 1 _ rfl)
        have y12 := Past.cell (show V2.cell? ⟨V.heap.size, 2, none⟩ = some (.int .i64 ((k : Int) + 1)) from HSP.out.cell 2 _ rfl)
        clear x0 x1 x2 x3 x4 x5 x6
        refine regionIn_head_round 7 (by kernel_rfl) (by kernel_rfl) ?_
        simp only [List.take_succ_cons, List.take_zero, List.drop_succ_cons, List.drop_zero]
        repeat (go_big_quiet_step (fail))
        refine wpQuiet_nil ?_
        rintro V5 ⟨⟨_, h5⟩, rfl⟩
        have CALL := Lib.hid (Macro_any (G.Ms j) (.slice va (G.Ms j).m vc) bt N R tc fb M fcb f0 FF n G.num ((k : Int) + 1) (G.Ms j).qt V5 (H1.out.below h5 (H1.out.lt h0)) hR hNc h0 (HSV.out.below h5) hf' (HMA.out.below h5))
        have Z3 := Lib.hid (H3.out.kept (grown_of_below h5 none) (by simp))
        have Z4 := Lib.hid (H4.out.kept (grown_of_below h5 none) (by simp))
        have Z5 := Lib.hid (H5.out.kept (grown_of_below h5 none) (by simp))
        have Z6 := Lib.hid (H6.out.below h5)
        have Z2 := Lib.hid (H2.out.kept (grown_of_below h5 none) (by simp))
        have Z7 := Lib.hid (grown_trans H7.out (grown_of_below h5 (some bt)))
        have Z8 := Lib.hid (HSV.out.below h5)
        have ZK := Lib.hid (kpB_t K2.out (kpB_below h5))
        clear y0 y1 y2 y3 y4 y5 y6 y7 y8 y9 y10 y11 y12 h5 H1 H2 H3 H4 H5 H6 H7 HSV HMA HSP K2
        gi_wp2_with (refine ⟨trivial, ?_⟩; gi_at_call 16; refine (callsIn_wide.2 CALL.out).mono ?_; rintro e V6 ⟨rfl, m1, m2⟩; have M1 := Lib.hid m1; have M2 := Lib.hid m2; clear m1 m2)
        have hzz := ZK.out.1
        have KF := kpB_t ZK.out (kpB_some (B := wc.heap.size) (b := b) M2.out (by omega) (by omega))
        refine ⟨KF.keeps (by omega), KF.kpM, ?_, ?_, Z3.out.kept M2.out (fun e => by have := Option.some.inj e; omega), Z4.out.kept M2.out (fun e => by have := Option.some.inj e; omega), Z5.out.kept M2.out (fun e => by have := Option.some.inj e; omega), Z6.out.kept M2.out (fun e => by have := Option.some.inj e; omega), grown_trans Z7.out M2.out, Sl.grown' Z8.out M2.out (fun h0 y e e2 => hneB h0 y e (Option.some.inj e2))⟩
        · rw [ST.out]
          simp only [if_pos hq]
          exact M1.out
        · rw [ST.out]
          simp only [if_pos hq]
          exact Z2.out.kept M2.out (fun e => by have := Option.some.inj e; omega)
      · skip
        have K2 := Lib.hid KK.out
        have x0 := e0
        have x1 := e1
        have x2 := e2
        have x3 := e3
        have x4 := e4
        have x5 := e5
        have x6 := e6
        gi_upto_region 13 with fail
        clear e0 e1 e2 e3 e4 e5 e6 c1 c2 c5 f5 KK
        have y0 := Past.cell x0
        have y1 := Past.cell x1
        have y2 := Past.cell x2
        have y3 := Past.cell x3
        have y4 := Past.cell x4
        have y5 := Past.cell x5
        have y6 := Past.cell x6
        have y7 := Past.cell H3.out.cell
        have y8 := Past.cell H4.out.cell
        have y9 := Past.cell H2.out.cell
        have y10 := Past.cell (show V1.cell? ⟨V.heap.size, 0, none⟩ = some (.int .i64 n) from HSP.out.cell 0 _ rfl)
        have y11 := Past.cell (show V1.cell? ⟨V.heap.size, 1, none⟩ = some (.int .i64 G.num) from HSP.out.cell 1 _ rfl)
        have y12 := Past.cell (show V1.cell? ⟨V.heap.size, 2, none⟩ = some (.int .i64 ((k : Int) + 1)) from HSP.out.cell 2 _ rfl)
        clear x0 x1 x2 x3 x4 x5 x6
        refine regionIn_head_round 7 (by kernel_rfl) (by kernel_rfl) ?_
        simp only [List.take_succ_cons, List.take_zero, List.drop_succ_cons, List.drop_zero]
        repeat (go_big_quiet_step (fail))
        refine wpQuiet_nil ?_
        rintro V5 ⟨⟨_, h5⟩, rfl⟩
        have CALL := Lib.hid (Macro_any (G.Ms j) (.slice va (G.Ms j).m vc) bt N R tc fb M fcb f0 FF n G.num ((k : Int) + 1) q0 V5 (H1.out.below h5 (H1.out.lt h0)) hR hNc h0 (HSV.out.below h5) hf' (HMA.out.below h5))
        have Z3 := Lib.hid (H3.out.kept (grown_of_below h5 none) (by simp))
        have Z4 := Lib.hid (H4.out.kept (grown_of_below h5 none) (by simp))
        have Z5 := Lib.hid (H5.out.kept (grown_of_below h5 none) (by simp))
        have Z6 := Lib.hid (H6.out.below h5)
        have Z2 := Lib.hid (H2.out.kept (grown_of_below h5 none) (by simp))
        have Z7 := Lib.hid (grown_trans H7.out (grown_of_below h5 (some bt)))
        have Z8 := Lib.hid (HSV.out.below h5)
        have ZK := Lib.hid (kpB_t K2.out (kpB_below h5))
        clear y0 y1 y2 y3 y4 y5 y6 y7 y8 y9 y10 y11 y12 h5 H1 H2 H3 H4 H5 H6 H7 HSV HMA HSP K2
        gi_wp2_with (refine ⟨trivial, ?_⟩; gi_at_call 16; refine (callsIn_wide.2 CALL.out).mono ?_; rintro e V6 ⟨rfl, m1, m2⟩; have M1 := Lib.hid m1; have M2 := Lib.hid m2; clear m1 m2)
        have hzz := ZK.out.1
        have KF := kpB_t ZK.out (kpB_some (B := wc.heap.size) (b := b) M2.out (by omega) (by omega))
        refine ⟨KF.keeps (by omega), KF.kpM, ?_, ?_, Z3.out.kept M2.out (fun e => by have := Option.some.inj e; omega), Z4.out.kept M2.out (fun e => by have := Option.some.inj e; omega), Z5.out.kept M2.out (fun e => by have := Option.some.inj e; omega), Z6.out.kept M2.out (fun e => by have := Option.some.inj e; omega), grown_trans Z7.out M2.out, Sl.grown' Z8.out M2.out (fun h0 y e e2 => hneB h0 y e (Option.some.inj e2))⟩
        · rw [ST.out]
          rw [if_neg (show ¬ 0 < (G.Ms j).qt by omega)]
          exact M1.out
        · rw [ST.out]
          rw [if_neg (show ¬ 0 < (G.Ms j).qt by omega)]
          exact Z2.out.kept M2.out (fun e => by have := Option.some.inj e; omega)
    · have hh' : hitB G.Ms G.m (nx G.Ms G.m k) k = false := by simpa using hh
      have PT : ptr b o G.Ms G.m k = .pointer none := if_neg hh
      have ST := Lib.hid (gS_miss (n := n) (num := G.num) (N := N) (NF := M) (F := FF) (f := f) (qt := G.qt) (pre := pre) (x := x) (by rw [hk]; exact hh'))
      rw [hk, hq0, hf0] at ST
      rw [hk, PT]
      clear PT hh hh' hl hr h1 h2 h3 h4 h5 h6 h7 h8 hSV hGV
      gi_upto_region 9 with fail
      have H1 := Lib.hid (H1.out.below bs hbV)
      have H2 := Lib.hid (H2.out.kept (grown_of_below bs none) (by simp))
      have H3 := Lib.hid (H3.out.kept (grown_of_below bs none) (by simp))
      have H4 := Lib.hid (H4.out.kept (grown_of_below bs none) (by simp))
      have H5 := Lib.hid (H5.out.kept (grown_of_below bs none) (by simp))
      have H6 := Lib.hid (H6.out.below bs)
      have H7 := Lib.hid (grown_trans H7.out (grown_of_below bs (some bt)))
      have HSV := Lib.hid (HSV.out.below bs)
      have KK := Lib.hid (kpB_below (B := wc.heap.size) (b := b) bs)
      clear c1 c2 c3 c4 c5 f5
      have c1 := H3.out.cell
      have c2 := H4.out.cell
      have s0 := HSP.out.cell 0 _ rfl
      have s1 := HSP.out.cell 1 _ rfl
      have s2 := HSP.out.cell 2 _ rfl
      generalize V.alloc (.cells #[.int .i64 n, .int .i64 G.num, .int .i64 ((k : Int) + 1)] 28) = V1 at *
      have CALL := Lib.hid (Pa.Copy_any bt N R tc fb M fcb f0 FF n G.num ((k : Int) + 1) V1 H1.out hR hNc h0 HSV.out (fun h0 => hneB h0))
      gi_wp2_with (refine ⟨trivial, ?_⟩; gi_at_call 32; refine (callsIn_wide.2 CALL.out).mono ?_; rintro e V6 ⟨rfl, m1, m2⟩; have M1 := Lib.hid m1; have M2 := Lib.hid m2; clear m1 m2 c1 c2 s0 s1 s2)
      have hzz := KK.out.1
      have KF := kpB_t KK.out (kpB_some (B := wc.heap.size) (b := b) M2.out (by omega) (by omega))
      refine ⟨KF.keeps (by omega), KF.kpM, ?_, ?_, H3.out.kept M2.out (fun e => by have := Option.some.inj e; omega), H4.out.kept M2.out (fun e => by have := Option.some.inj e; omega), H5.out.kept M2.out (fun e => by have := Option.some.inj e; omega), H6.out.kept M2.out (fun e => by have := Option.some.inj e; omega), grown_trans H7.out M2.out, Sl.grown' HSV.out M2.out (fun h0 y e e2 => hneB h0 y e (Option.some.inj e2))⟩
      · rw [ST.out]; exact M1.out
      · rw [ST.out]; exact H2.out.kept M2.out (fun e => by have := Option.some.inj e; omega)
  case stop =>
    rintro Dd c pre V hD hSp h hK
    exact h.elim
  case done =>
    rintro Dd ys V hD rfl ⟨h1, h2, h3, h4, h5, h6, h7, h8⟩ hK
    have gp := grownBy_putObj' V Dd (.deferred none)
    have a1 : Arr (V.putObj Dd (.deferred none)) .u8 bt R (gP n G.num N M FF f G.qt G.Ms G.m 33) := by
      rw [gS_all] at h1
      exact h1.grown gp (fun e => by have := Option.some.inj e; omega)
    have a2 := grown_by2 h7 gp (by have := d6.size; omega)
    have A1 := Lib.hid a1
    have A2 := Lib.hid a2
    clear h1 h2 h3 h4 h5 h6 h7 h8 gp a1 a2
    go_wp2
    refine ⟨by simp, .inl ⟨_, _, rfl, run_takeDeferred hK, ?_⟩⟩
    exact ⟨_, results_tmp rfl _ _ _, rfl, A1.out, A2.out⟩
end
end Bl
end Go.Proofs.YtbmglemjfodfhaaGreat
namespace Go.Proofs.YtbmglemjfodfhaaGreat
open Go.RowKit
namespace Bl
open Bk Kd Sc Bu
theorem info_mac7 : (Tryz.prog.info? 24).map (fun i => (i.zero, i.size, i.bytes)) = some (some (.agg #[.int .i64 0, .int .i64 0, .int .i64 0, .int .i64 0, .int .i64 0, .int .i64 0, .slice none 0 0]), 7, 72) := by kernel_rfl
def m7 (M : MB) (v : Value) : List Value := [.int .i64 M.ad, .int .i64 M.kd, .int .i64 M.qt, .int .i64 M.x, .int .i64 M.y, .int .i64 M.pt, v]
def mcs (Ms : Nat → MB) (vb : Nat → Value) : Nat → List Value
  | 0 => []
  | k + 1 => mcs Ms vb k ++ m7 (Ms k) (vb k)
theorem mcs_len (Ms : Nat → MB) (vb : Nat → Value) : ∀ n, (mcs Ms vb n).length = n * 7
  | 0 => rfl
  | n + 1 => by rw [mcs, List.length_append, mcs_len Ms vb n]; simp [m7]; omega
theorem m7_get (M : MB) (v : Value) (i : Nat) (h : i < 7) : (m7 M v)[i]? = some (mcell M v i) := by
  rcases (by omega : i = 0 ∨ i = 1 ∨ i = 2 ∨ i = 3 ∨ i = 4 ∨ i = 5 ∨ i = 6) with rfl | rfl | rfl | rfl | rfl | rfl | rfl <;> rfl
theorem mcs_get (Ms : Nat → MB) (vb : Nat → Value) : ∀ n j, j < n → ∀ i, i < 7 → (mcs Ms vb n)[j * 7 + i]? = some (mcell (Ms j) (vb j) i)
  | n + 1, j, h, i, hi => by
    have hl := mcs_len Ms vb n
    by_cases hj : j < n
    · rw [mcs, List.getElem?_append_left (by omega)]
      exact mcs_get Ms vb n j hj i hi
    · obtain rfl : j = n := by omega
      rw [mcs, List.getElem?_append_right (by omega), hl, show j * 7 + i - j * 7 = i by omega]
      exact m7_get _ _ i hi
theorem mcs_congr {Ms : Nat → MB} {vb vb' : Nat → Value} : ∀ n, (∀ i, i < n → vb i = vb' i) → mcs Ms vb n = mcs Ms vb' n
  | 0, _ => rfl
  | n + 1, h => by rw [mcs, mcs, mcs_congr n (fun i hi => h i (by omega)), h n (by omega)]
theorem Cop.mono {w : World} {B B' : Nat} {M : MB} {v : Value} {k : Nat} {Q : Nat → Option Addr} {C : Nat → Nat} (h : Cop w B M v k Q C) (hb : B' ≤ B) : Cop w B' M v k Q C :=
  ⟨own_mono h.own hb, fun j hj => own_mono (h.row j hj) hb⟩
theorem Cop.apart {w w' : World} {B B' n : Nat} {M : MB} {u v : Value} {k : Nat} {Q : Nat → Option Addr} {C : Nat → Nat} {l : List Value} {tmp : Obj} (h : Cop w B M u k Q C) (ho : w.ownsRow B' 24 7 v n l) (hg : (w.alloc tmp).grownBy w' v.ownBlock) : Cop w' B M u k Q C := by
  have b := (Below.refl w.heap.size w).alloc (Nat.le_refl _) tmp
  have h2 := own_below ho b
  exact ⟨World.ownsRow.kept (own_below h.own b) hg (own_apart (by decide) (own_below h.own b) h2), fun j hj => World.ownsRow.kept (own_below (h.row j hj) b) hg (own_apart (by decide) (own_below (h.row j hj) b) h2)⟩
structure CopG (w : World) (B : Nat) (G : GB) (v : Value) (k : Nat) (Q : Nat → Nat → Option Addr) (C : Nat → Nat → Nat) (vb : Nat → Value) : Prop where
  own : w.ownsRow B 24 7 v k (mcs G.Ms vb k)
  row : ∀ j, j < k → Cop w B (G.Ms j) (vb j) (G.Ms j).m (Q j) (C j)
section
variable {w w' : World} {B : Nat} {G : GB} {v : Value} {k : Nat} {Q : Nat → Nat → Option Addr} {C : Nat → Nat → Nat} {vb : Nat → Value}
theorem CopG.below (h : CopG w B G v k Q C vb) (hb : Below w.heap.size w w') : CopG w' B G v k Q C vb := ⟨own_below h.own hb, fun j hj => (h.row j hj).below hb⟩
theorem CopG.keep {x : Nat} (h : CopG w B G v k Q C vb) (hg : w.grownBy w' (some x)) (hx : x < B) : CopG w' B G v k Q C vb :=
  ⟨World.ownsRow.kept h.own hg (by
    by_cases h0 : v.ownBlock = none
    · exact .inl h0
    · exact .inr (fun e => by have := (World.ownsRow.lt h.own _ e).1; omega)), fun j hj => (h.row j hj).keep hg hx⟩
theorem CopG.snoc {v' u : Value} {q : Nat → Option Addr} {c : Nat → Nat} {tmp : Obj} (h : CopG w B G v k Q C vb) (hp : Cop w B (G.Ms k) u (G.Ms k).m q c)
    (hown : w'.ownsRow B 24 7 v' (k + 1) (mcs G.Ms vb k ++ m7 (G.Ms k) u)) (hg : (w.alloc tmp).grownBy w' v.ownBlock) :
    CopG w' B G v' (k + 1) (fun i => if i = k then q else Q i) (fun i => if i = k then c else C i) (fun i => if i = k then u else vb i) := by
  have e : mcs G.Ms (fun i => if i = k then u else vb i) (k + 1) = mcs G.Ms vb k ++ m7 (G.Ms k) u := by
    rw [mcs, mcs_congr (vb' := vb) k (fun i hi => if_neg (by omega)), if_pos rfl]
  refine ⟨by rw [e]; exact hown, fun j hj => ?_⟩
  by_cases hjk : j = k
  · subst hjk
    simp only [if_pos]
    exact hp.apart h.own hg
  · simp only [if_neg hjk]
    exact (h.row j (by omega)).apart h.own hg
end
theorem at_four {V : World} {B : Nat} {y0 y1 y2 y3 : Value} {t : TypeId} (h : At V B #[y0, y1, y2, y3] t) (x0 x1 x2 x3 : Value) :
    At ((((V.setCell ⟨B, 0, none⟩ x0).setCell ⟨B, 1, none⟩ x1).setCell ⟨B, 2, none⟩ x2).setCell ⟨B, 3, none⟩ x3) B #[x0, x1, x2, x3] t ∧ V.grownBy ((((V.setCell ⟨B, 0, none⟩ x0).setCell ⟨B, 1, none⟩ x1).setCell ⟨B, 2, none⟩ x2).setCell ⟨B, 3, none⟩ x3) (some B) := by
  obtain ⟨V1, e1⟩ : ∃ X, X = V.setCell ⟨B, 0, none⟩ x0 := ⟨_, rfl⟩
  have h1 : V1.heap[B]? = some (.cells #[x0, y1, y2, y3] t (0, 0)) := by rw [e1]; exact ob_set h 0 x0
  have g1 : V.grownBy V1 (some B) := by rw [e1]; exact Kd.grown_cell V _ _ _
  rw [← e1]
  obtain ⟨V2, e2⟩ : ∃ X, X = V1.setCell ⟨B, 1, none⟩ x1 := ⟨_, rfl⟩
  have h2 : V2.heap[B]? = some (.cells #[x0, x1, y2, y3] t (0, 0)) := by rw [e2]; exact ob_set h1 1 x1
  have g2 : V.grownBy V2 (some B) := by rw [e2]; exact grown_set g1 _ _
  rw [← e2]
  obtain ⟨V3, e3⟩ : ∃ X, X = V2.setCell ⟨B, 2, none⟩ x2 := ⟨_, rfl⟩
  have h3 : V3.heap[B]? = some (.cells #[x0, x1, x2, y3] t (0, 0)) := by rw [e3]; exact ob_set h2 2 x2
  have g3 : V.grownBy V3 (some B) := by rw [e3]; exact grown_set g2 _ _
  rw [← e3]
  exact ⟨ob_set h3 3 x3, grown_set g3 _ _⟩
theorem below_weak {B w w' : _} (h : Below (World.heap w).size w w') (hb : B ≤ (World.heap w).size) : Below B w w' := ⟨h.os, h.tape, h.output, h.size, fun i hi => h.block i (by omega)⟩
def CopyGR (G : GB) (w : World) (e : Ending) (w' : World) : Prop :=
  ∃ sg sc Q C vb va, e = .returned (.agg #[.int .i64 G.num, .int .i64 G.qt, .slice (some ⟨sg, 0, none⟩) G.sN sc, va]) ∧ CopG w' (w.heap.size + 2) G va G.m Q C vb ∧ Arr w' .u8 sg G.sN G.sf ∧ G.sN ≤ sc ∧ sc ≤ maxLen ∧ w.heap.size + 2 ≤ sg ∧ sg < w'.heap.size ∧ Below w.heap.size w w'
section
set_option maxRecDepth 100000
set_option maxHeartbeats 8000000
set_option linter.unusedVariables false
theorem CopyGroup_any (G : GB) (mvv : Value) (w : World) (hr : G.raw w mvv) (hs : ShortG G) :
    Calls Tryz.prog 34 #[gv G mvv] w (CopyGR G w) := by
  obtain ⟨i0, hi, hz0, hz1, hz2⟩ := info_parts info_mac7
  have b1 := ((Below.refl w.heap.size w).alloc (Nat.le_refl _) (.cells #[.int .i64 G.num, .int .i64 G.qt, .slice G.sa G.sN G.sc, mvv] 56)).alloc (by simp) (.cells #[.int .i64 0, .int .i64 0, .slice none 0 0, .slice none 0 0] 56)
  have HB := Lib.hid b1
  have HR := Lib.hid (hr.below b1)
  have HSh := Lib.hid hs
  have H0 : Hid (At _ _ _ _) := Lib.hid ((At.new w #[.int .i64 G.num, .int .i64 G.qt, .slice G.sa G.sN G.sc, mvv] 56).below ((Below.refl _ _).alloc (Nat.le_refl _) (.cells #[.int .i64 0, .int .i64 0, .slice none 0 0, .slice none 0 0] 56)))
  have H1 : Hid (At _ _ _ _) := Lib.hid (At.new (w.alloc (.cells #[.int .i64 G.num, .int .i64 G.qt, .slice G.sa G.sN G.sc, mvv] 56)) #[.int .i64 0, .int .i64 0, .slice none 0 0, .slice none 0 0] 56)
  simp only [World.size_alloc] at H1
  have hs0 : w.heap.size + 2 = ((w.alloc (.cells #[.int .i64 G.num, .int .i64 G.qt, .slice G.sa G.sN G.sc, mvv] 56)).alloc (.cells #[.int .i64 0, .int .i64 0, .slice none 0 0, .slice none 0 0] 56)).heap.size := by simp
  have hrlt := Lib.hid (fun h0 x e => sl_lt hr.sp h0 x e)
  clear b1 hr
  obtain ⟨qa, ca, rfl, k1, k2, k3⟩ := id HR.out.ms
  have HK3 := Lib.hid k3
  have hm40 := hs.1
  have hs40 := hs.2.1
  clear k3 hs
  go_enter Tryz.func34, Tryz.ntmps34
  go_upto_region 1 with fail
  generalize (w.alloc (.cells #[.int .i64 G.num, .int .i64 G.qt, .slice G.sa G.sN G.sc, .slice qa G.m ca] 56)).alloc (.cells #[.int .i64 0, .int .i64 0, .slice none 0 0, .slice none 0 0] 56) = W1 at *
  go_wp2_with fail
  go_loopw [4, 3] (fun x v wr => ∃ (k : Nat) (Q : Nat → Nat → Option Addr) (C : Nat → Nat → Nat) (vb : Nat → Value), k ≤ G.m ∧ x = .int .i64 k ∧ Hid (CopG wr (w.heap.size + 2) G v k Q C vb) ∧ Hid (Below W1.heap.size W1 wr)) (fun x _ _ => G.m - (intOf x).toNat)
  case atStart => exact ⟨0, fun _ _ => none, fun _ _ => 0, fun _ => undef, by omega, rfl, Lib.hid ⟨World.ownsRow_nil _ _ _ _, fun j hj => by omega⟩, Lib.hid (Below.refl _ _)⟩
  case round =>
    obtain ⟨k, Q, C, vb, hk, rfl, HC, HW⟩ := hrel
    have H0 := Lib.hid (H0.out.below HW.out)
    have a3 := H0.out.cell 3 _ rfl
    have hsz := HW.out.size
    by_cases hkm : k < G.m
    · have kb : (0 : Int) ≤ (k : Int) ∧ (k : Int) < (G.m : Int) := by omega
      have ek : IntKind.i64.wrap ((k : Int) + 1) = (k : Int) + 1 := IntWalk.i64_in _ (by omega)
      rcases HK3.out with h0 | ⟨b, o, rfl, hI⟩
      · omega
      obtain ⟨hc, hrw⟩ := hI k hkm
      have HMA := Lib.hid ((HSh.out.2.2 k hkm).at (hrw.below HW.out))
      have h8 := (HSh.out.2.2 k hkm).1
      have cc : ∀ i, i < 7 → wr.cell? ⟨b, o + k * 7 + i, none⟩ = some (mcell (G.Ms k) (G.vb k) i) := fun i hi => (HW.out.cell (p := ⟨b, o + k * 7 + i, none⟩) (World.block_lt_of_cell? _ _ (hc i hi))).trans (hc i hi)
      have d0 : wr.cell? ⟨b, o + k * 7, none⟩ = some (.int .i64 (G.Ms k).ad) := cc 0 (by omega)
      have d1 : wr.cell? ⟨b, o + k * 7 + 1, none⟩ = some (.int .i64 (G.Ms k).kd) := cc 1 (by omega)
      have d2 : wr.cell? ⟨b, o + k * 7 + 2, none⟩ = some (.int .i64 (G.Ms k).qt) := cc 2 (by omega)
      have d3 : wr.cell? ⟨b, o + k * 7 + 3, none⟩ = some (.int .i64 (G.Ms k).x) := cc 3 (by omega)
      have d4 : wr.cell? ⟨b, o + k * 7 + 4, none⟩ = some (.int .i64 (G.Ms k).y) := cc 4 (by omega)
      have d5 : wr.cell? ⟨b, o + k * 7 + 5, none⟩ = some (.int .i64 (G.Ms k).pt) := cc 5 (by omega)
      have d6 : wr.cell? ⟨b, o + k * 7 + 6, none⟩ = some (G.vb k) := cc 6 (by omega)
      have CB := Lib.hid (CopyMacro_any (G.Ms k) (G.vb k) wr HMA.out h8)
      clear hI hc hrw cc h8
      go_wp2_with (first
        | (go_at_call 20; refine CB.out.mono ?_; rintro e w1 ⟨q1, c1, u1, rfl, hP, b1⟩; obtain ⟨ua, um, uc, rfl⟩ := own_slice hP.own; have HP := Lib.hid (hP.mono (show w.heap.size + 2 ≤ wr.heap.size + 2 by omega)); have HC := Lib.hid (HC.out.below b1); have HW := Lib.hid (chain HW.out b1); have hsz := HW.out.size; clear hP b1 a3 d0 d1 d2 d3 d4 d5 d6)
        | (at_builtin; refine wpList_append_own _ rfl _ _ 54 rfl (w.heap.size + 2) 24 i0 (.agg #[.int .i64 0, .int .i64 0, .int .i64 0, .int .i64 0, .int .i64 0, .int .i64 0, .slice none 0 0]) 7 72 Tryz.underlying54 hi hz0 hz1 hz2 rfl (by decide) _ _ _ rfl (HC.out.own.alloc _) ⟨w1.heap.size, 0, none⟩ 1 1 (m7 (G.Ms k) (.slice ua um uc)) rfl rfl (World.news_of_block (cs := #[.int .i64 (G.Ms k).ad, .int .i64 (G.Ms k).kd, .int .i64 (G.Ms k).qt, .int .i64 (G.Ms k).x, .int .i64 (G.Ms k).y, .int .i64 (G.Ms k).pt, .slice ua um uc]) (t := 24) (fr := (0, 0)) (heap_alloc_new w1 _)) (by simp [Value.oneCell', m7]) (by unfold maxLen; omega) (by omega) (by simp only [World.size_alloc]; omega) ?_; intro v' w5 hown2 hgr hnil; have HC5 := Lib.hid (HC.out.snoc HP.out hown2 hgr); have HW5 := Lib.hid ((HW.out.alloc HW.out.size _).grown hgr (by simp only [World.size_alloc]; omega) (fun q hq => by have := (HC.out.own.lt q hq).1; omega)); clear hown2 hgr hnil))
      go_roundw
      case rel => exact ⟨k + 1, _, _, _, by omega, by go_num, HC5, HW5⟩
      case measure => simp [intOf]; omega
    · have hk7 : k = G.m := by omega
      have kb : ¬ (k : Int) < (G.m : Int) := by omega
      have H1 := Lib.hid (H1.out.below HW.out)
      clear hk hkm
      obtain ⟨va, vm, vc, rfl⟩ := own_slice HC.out.own
      have f3 : wr.frozen? ⟨w.heap.size, 3, none⟩ = false := frozen_of_row H0.out 3
      have g1 := Kd.grown_cell wr w.heap.size 3 (.slice va vm vc)
      have H0' : Hid (At _ _ _ _) := Lib.hid (ob_set H0.out 3 (.slice va vm vc))
      have H1' := Lib.hid (H1.out.kept g1 (fun e => by have e := Option.some.inj e; omega))
      have HC' := Lib.hid (HC.out.keep g1 (by omega))
      have hb0 := chain HB.out HW.out
      have HB1 := Lib.hid (hb0.grown g1 hb0.size (fun q e => by have := Option.some.inj e; omega))
      have HSP := Lib.hid (Sl.grown' (HR.out.sp.below HW.out) g1 (fun h0 y e e2 => by have := Option.some.inj e2; have := hrlt.out h0 y e; omega))
      have c2 : (wr.setCell ⟨w.heap.size, 3, none⟩ (.slice va vm vc)).cell? ⟨w.heap.size, 2, none⟩ = some (.slice G.sa G.sN G.sc) := H0'.out.cell 2 _ rfl
      have hsz1 := g1.size
      go_upto_region 7 with fail
      clear a3 f3
      generalize wr.setCell ⟨w.heap.size, 3, none⟩ (.slice va vm vc) = V1 at *
      have CB := Lib.hid (CopyBytes_any (.slice G.sa G.sN G.sc) G.sN G.sf V1 (by omega) HSP.out)
      go_upto_region 8 with (go_at_call 14; refine CB.out.mono ?_; rintro e V2 ⟨sg, sc, rfl, s1, s2, s3, s4, s5, s6⟩; have f2 : V2.frozen? ⟨w.heap.size, 2, none⟩ = false := frozen_of_row (H0'.out.below s6) 2; have H2 : Hid (At _ _ _ _) := Lib.hid (H0'.out.below s6); have c2b := H2.out.cell 2 _ rfl; have S1 := Lib.hid s1; have S2 := Lib.hid s2; have S3 := Lib.hid s3; have S4 := Lib.hid s4; have S5 := Lib.hid s5; have S6 := Lib.hid s6; clear s1 s2 s3 s4 s5 s6 c2)
      have H3 : Hid (At _ _ _ _) := Lib.hid (ob_set H2.out 2 (.slice (some ⟨sg, 0, none⟩) G.sN sc))
      have g2 := Kd.grown_cell V2 w.heap.size 2 (.slice (some ⟨sg, 0, none⟩) G.sN sc)
      have hsz2 := S6.out.size
      have hsg := S1.out
      have HC3 := Lib.hid ((HC'.out.below S6.out).keep g2 (by omega))
      have HA3 := Lib.hid (S5.out.grown g2 (fun e => by have := Option.some.inj e; omega))
      have H1c := Lib.hid ((H1'.out.below S6.out).kept g2 (fun e => by have := Option.some.inj e; omega))
      have HB3 := Lib.hid ((HB1.out.trans (below_weak S6.out HB1.out.size)).grown g2 (by have := HB1.out.size; omega) (fun q e => by have := Option.some.inj e; omega))
      have z3 := g2.size
      have hs2 := S2.out
      clear f2 c2b
      generalize V2.setCell ⟨w.heap.size, 2, none⟩ (.slice (some ⟨sg, 0, none⟩) G.sN sc) = V3 at *
      have d0 := H3.out.cell 0 _ rfl
      have d1 := H3.out.cell 1 _ rfl
      have d2 := H3.out.cell 2 _ rfl
      have d3 := H3.out.cell 3 _ rfl
      have e0 := H1c.out.cell 0 _ rfl
      have e1 := H1c.out.cell 1 _ rfl
      have e2 := H1c.out.cell 2 _ rfl
      have e3 := H1c.out.cell 3 _ rfl
      have g0 : V3.frozen? ⟨w.heap.size + 1, 0, none⟩ = false := frozen_of_row H1c.out 0
      have g1' : V3.frozen? ⟨w.heap.size + 1, 1, none⟩ = false := frozen_of_row H1c.out 1
      have g2' : V3.frozen? ⟨w.heap.size + 1, 2, none⟩ = false := frozen_of_row H1c.out 2
      have g3' : V3.frozen? ⟨w.heap.size + 1, 3, none⟩ = false := frozen_of_row H1c.out 3
      go_wp2_with fail
      obtain ⟨hA4, hg4⟩ := at_four H1c.out (.int .i64 G.num) (.int .i64 G.qt) (.slice (some ⟨sg, 0, none⟩) G.sN sc) (.slice va vm vc)
      have hb4 := HB3.out.grown hg4 HB3.out.size (fun q e => by have := Option.some.inj e; omega)
      refine bodyPost_ret (results_cell_row rfl _ _ (w.heap.size + 1) _ _ _ _ rfl hA4 Tryz.underlying56 rfl (by kernel_rfl)) rfl ?_
      subst hk7
      exact ⟨sg, sc, Q, C, vb, _, rfl, HC3.out.keep hg4 (by omega), HA3.out.grown hg4 (fun e => by have := Option.some.inj e; omega), S3.out, S4.out, by omega, by have := hg4.size; omega, hb4⟩
end
end Bl
end Go.Proofs.YtbmglemjfodfhaaGreat
namespace Go.Proofs.YtbmglemjfodfhaaGreat
open Go.RowKit
namespace Bl
open Bk Fr Pt Kd Bu
theorem MB.at_raw {M : MB} {w : World} {v : Value} (h : M.at w v) : MB.raw M w v := by
  obtain ⟨a, c, e, h1, h2, h3⟩ := h
  refine ⟨a, c, e, h1, h2, ?_⟩
  rcases h3 with h3 | ⟨b, o, e2, h4⟩
  · exact .inl h3
  · exact .inr ⟨b, o, e2, fun j hj => ⟨(h4 j hj).1, (h4 j hj).2.1, (h4 j hj).2.2.1⟩⟩
def cpM (Ms : Nat → MB) (Q : Nat → Nat → Option Addr) (C : Nat → Nat → Nat) (j : Nat) : MB := (Ms j).cp (Q j) (C j)
def cpG (G : GB) (sg sc : Nat) (Q : Nat → Nat → Option Addr) (C : Nat → Nat → Nat) (vb : Nat → Value) : GB := ⟨G.num, G.qt, some ⟨sg, 0, none⟩, G.sN, sc, G.sf, G.m, cpM G.Ms Q C, vb⟩
section
variable (Ms : Nat → MB) (Q : Nat → Nat → Option Addr) (C : Nat → Nat → Nat)
theorem nx_cp (m : Nat) : ∀ k, nx (cpM Ms Q C) m k = nx Ms m k
  | 0 => rfl
  | k + 1 => by
    unfold nx
    rw [nx_cp m k]
    rfl
theorem gQ_cp (qt : Int) (m : Nat) : ∀ k, gQ qt (cpM Ms Q C) m k = gQ qt Ms m k
  | 0 => rfl
  | k + 1 => by
    unfold gQ
    rw [nx_cp, gQ_cp qt m k]
    rfl
theorem gP_cp (n num : Int) (N NF : Nat) (F f : Nat → Int) (qt : Int) (m : Nat) : ∀ k, gP n num N NF F f qt (cpM Ms Q C) m k = gP n num N NF F f qt Ms m k
  | 0 => rfl
  | k + 1 => by
    unfold gP
    rw [nx_cp, gQ_cp, gP_cp n num N NF F f qt m k]
    rfl
theorem lastA_cp (j : Nat) : lastA (cpM Ms Q C) j = lastA Ms j := by cases j <;> rfl
theorem rise_cp (m : Nat) : rise (cpM Ms Q C) m ↔ rise Ms m := by
  unfold rise
  constructor
  · intro h j hj
    have := h j hj
    rw [lastA_cp] at this
    exact this
  · intro h j hj
    rw [lastA_cp]
    exact h j hj
end
theorem gE_cp (G : GB) (sg sc : Nat) (Q : Nat → Nat → Option Addr) (C : Nat → Nat → Nat) (vb : Nat → Value) (n : Int) (N NF : Nat) : gE (cpG G sg sc Q C vb) n N NF = gE G n N NF := by
  have h1 : rise (cpG G sg sc Q C vb).Ms (cpG G sg sc Q C vb).m ↔ rise G.Ms G.m := rise_cp G.Ms Q C G.m
  have h2 : fits n (cpG G sg sc Q C vb).num (cpG G sg sc Q C vb).Ms (cpG G sg sc Q C vb).m ↔ fits n G.num G.Ms G.m := Iff.rfl
  have h3 : gB3 (cpG G sg sc Q C vb) n N NF ↔ gB3 G n N NF := Iff.rfl
  unfold gE
  simp only [h1, h2, h3]
  rfl
theorem gpF_cp (G : GB) (sg sc : Nat) (Q : Nat → Nat → Option Addr) (C : Nat → Nat → Nat) (vb : Nat → Value) (n : Int) (N NF : Nat) (F f : Nat → Int) : gpF (cpG G sg sc Q C vb) n N NF F f = gpF G n N NF F f := by
  unfold gpF
  rw [gE_cp]
  have := gP_cp G.Ms Q C n G.num N (aN NF n) (aF NF F) f G.qt G.m 33
  show (if _ then gP n G.num N (aN NF n) (aF NF F) f G.qt (cpM G.Ms Q C) G.m 33 else f) = _
  rw [this]
theorem gP_lent (n num : Int) (N NF : Nat) (F f : Nat → Int) (qt : Int) (Ms : Nat → MB) (m : Nat) : ∀ k, gP n num N NF F (lentF N f) qt Ms m k = lentF N (gP n num N NF F f qt Ms m k)
  | 0 => rfl
  | k + 1 => by
    have ih := gP_lent n num N NF F f qt Ms m k
    unfold gP
    rw [ih]
    split
    · exact macF_lent _ _ _ _ _ _ _ _ _
    · exact Pa.copG_lent _ _ _ _ _ _ _
theorem gpF_lent (G : GB) (n : Int) (N NF : Nat) (F f : Nat → Int) : gpF G n N NF F (lentF N f) = lentF N (gpF G n N NF F f) := by
  unfold gpF
  split
  · exact gP_lent _ _ _ _ _ _ _ _ _ _
  · rfl
theorem Group_full (G : GB) (ma : Option Addr) (mc bt R tc : Nat) (fa : Option Addr) (N NF fc : Nat) (f F : Nat → Int) (n : Int) (w : World) (hms : Gsl w (.slice ma G.m mc) G.m G.Ms G.vb) (hsh : ∀ j, j < G.m → Short (G.Ms j))
    (hA : Arr w .u8 bt R f) (hR : N ≤ R) (hNc : N ≤ tc) (h0 : 0 < R) (hs : Sl .u8 w (.slice fa NF fc) NF F) (hf : ∀ i, 0 ≤ F i ∧ F i ≤ 255) (hne : 0 < NF → ∀ x, fa = some x → x.block ≠ bt) (hG : ∀ V, w.grownBy V (some bt) → Gsl V (.slice ma G.m mc) G.m G.Ms G.vb) (hbm : 0 < G.m → ∀ x, ma = some x → x.block ≠ bt) :
    Calls Tryz.prog 35 #[.slice (some ⟨bt, 0, none⟩) N tc, .slice fa NF fc, .int .i64 n, gv G (.slice ma G.m mc)] w fun e w' => e = .returned (.int .i64 (gE G n N NF)) ∧ Arr w' .u8 bt R (gpF G n N NF F f) ∧ w.grownBy w' (some bt) := by
  by_cases hE : gE G n N NF = 0
  · refine (group_any G ma mc bt R tc fa N NF fc f F n w hms hsh hE hA hR hNc h0 hs hf hne hG hbm).mono ?_
    rintro e w' ⟨h1, h2, h3⟩
    exact ⟨by rw [hE]; exact h1, by unfold gpF; rw [if_pos hE]; exact h2, h3⟩
  · refine (group_no G (.slice ma G.m mc) _ fa N tc NF fc n w hms hsh hE).mono ?_
    rintro e w' ⟨h1, h2⟩
    exact ⟨h1, by unfold gpF; rw [if_neg hE]; exact hA.below h2 (hA.lt h0), grown_of_below h2 _⟩
def Ghi (B : Nat) (w : World) (v : Value) (m : Nat) (Ms : Nat → MB) (vb : Nat → Value) : Prop := ∃ a c, v = .slice a m c ∧ m ≤ c ∧ c ≤ maxLen ∧ (m = 0 ∨ ∃ b, a = some ⟨b, 0, none⟩ ∧ B ≤ b ∧ b < w.heap.size ∧ ∀ j, j < m → (∀ i, i < 7 → w.cell? ⟨b, j * 7 + i, none⟩ = some (mcell (Ms j) (vb j) i)) ∧ MB.hi (Ms j) B w (vb j))
theorem CopG.hi {w : World} {B : Nat} {G : GB} {v : Value} {Q : Nat → Nat → Option Addr} {C : Nat → Nat → Nat} {vb : Nat → Value} (h : CopG w B G v G.m Q C vb) (hn : ShortG G) : Ghi B w v G.m (cpM G.Ms Q C) vb := by
  have hc := fun g => World.ownsRow.cells h.own (g := g)
  rcases h.own.2 with ⟨rfl, h0⟩ | ⟨g, cap, cur, rfl, hb, hg, h1, h2, h3, h4⟩
  · have h0 : G.m = 0 := by simpa [mcs_len] using h0
    refine ⟨none, 0, ?_, ?_, Nat.zero_le _, .inl h0⟩
    · rw [h0]
    · omega
  · refine ⟨some ⟨g, 0, none⟩, cap, rfl, h1, h2, .inr ⟨g, rfl, hb, (Array.getElem?_eq_some_iff.1 hg).1, fun j hj => ⟨fun i hi => ?_, (h.row j hj).hi (fun i hi => Nat.le_trans ((hn.2.2 j hj).2 i hi) (by omega))⟩⟩⟩
    have p1 := mcs_get G.Ms vb G.m j hj i hi
    have a1 := hc g rfl _ _ p1
    have ad : ∀ j, (⟨g, 0, none⟩ : Addr).add j = ⟨g, j, none⟩ := fun j => by unfold Addr.add; split <;> simp_all
    rw [ad] at a1
    exact a1
theorem Ghi.mono {B B' : Nat} {w : World} {v : Value} {m : Nat} {Ms : Nat → MB} {vb : Nat → Value} (h : Ghi B w v m Ms vb) (hb : B' ≤ B) : Ghi B' w v m Ms vb := by
  obtain ⟨a, c, e, h1, h2, h3⟩ := h
  refine ⟨a, c, e, h1, h2, ?_⟩
  rcases h3 with h3 | ⟨b, e2, h4, h5, h6⟩
  · exact .inl h3
  · exact .inr ⟨b, e2, Nat.le_trans hb h4, h5, fun j hj => ⟨(h6 j hj).1, MB.hi.mono (h6 j hj).2 hb⟩⟩
theorem Ghi.off {gi : Nat} {W1 w : World} {v : Value} {m : Nat} {Ms : Nat → MB} {vb : Nat → Value} (h : Ghi (gi + 1) W1 v m Ms vb) (ho : Off gi W1 w) : Gsl w v m Ms vb := by
  obtain ⟨a, c, e, h1, h2, h3⟩ := h
  refine ⟨a, c, e, h1, h2, ?_⟩
  rcases h3 with h3 | ⟨b, e2, h4, h5, h6⟩
  · exact .inl h3
  · exact .inr ⟨b, 0, e2, fun j hj => ⟨fun i hi => by rw [show 0 + j * 7 + i = j * 7 + i by omega]; exact (ho.cell _ _ h5 (by omega)).trans ((h6 j hj).1 i hi), MB.at_raw ((h6 j hj).2.off ho)⟩⟩
section
set_option maxRecDepth 100000
set_option maxHeartbeats 8000000
set_option linter.unusedVariables false
theorem SameGroup_true (G : GB) (sg sc : Nat) (Q : Nat → Nat → Option Addr) (C : Nat → Nat → Nat) (vb : Nat → Value) (va mvv : Value) (w : World) (hi : Gsl w va G.m (cpM G.Ms Q C) vb) (hsp : Sl .u8 w (.slice (some ⟨sg, 0, none⟩) G.sN sc) G.sN G.sf) (hg : G.raw w mvv) (hs : ShortG G) :
    Calls Tryz.prog 37 #[.agg #[.int .i64 G.num, .int .i64 G.qt, .slice (some ⟨sg, 0, none⟩) G.sN sc, va], gv G mvv] w fun e w' => e = .returned (.bool true) ∧ Below w.heap.size w w' := by
  have b1 := ((Below.refl w.heap.size w).alloc (Nat.le_refl _) (.cells #[.int .i64 G.num, .int .i64 G.qt, .slice (some ⟨sg, 0, none⟩) G.sN sc, va] 56)).alloc (by simp) (.cells #[.int .i64 G.num, .int .i64 G.qt, .slice G.sa G.sN G.sc, mvv] 56)
  have HB := Lib.hid b1
  have HI0 := Lib.hid (hi.below b1)
  have HG0 := Lib.hid (hg.below b1)
  have HSB := Lib.hid (SameBytes_true _ _ G.sN G.sf G.sf _ (hsp.below b1) HG0.out.sp (fun i _ => rfl))
  have H0 : Hid (At _ _ _ _) := Lib.hid ((At.new w #[.int .i64 G.num, .int .i64 G.qt, .slice (some ⟨sg, 0, none⟩) G.sN sc, va] 56).below ((Below.refl _ _).alloc (Nat.le_refl _) (.cells #[.int .i64 G.num, .int .i64 G.qt, .slice G.sa G.sN G.sc, mvv] 56)))
  have H1 : Hid (At _ _ _ _) := Lib.hid (At.new (w.alloc (.cells #[.int .i64 G.num, .int .i64 G.qt, .slice (some ⟨sg, 0, none⟩) G.sN sc, va] 56)) #[.int .i64 G.num, .int .i64 G.qt, .slice G.sa G.sN G.sc, mvv] 56)
  simp only [World.size_alloc] at H1
  have HSh := Lib.hid hs
  clear b1 hi hg hsp hs
  obtain ⟨a1, c1, rfl, k1, k2, k3⟩ := id HI0.out
  obtain ⟨a2, c2, rfl, k4, k5, k6⟩ := id HG0.out.ms
  have HK3 := Lib.hid k3
  have HK6 := Lib.hid k6
  have a0 := H0.out.cell 0 _ rfl
  have a1' := H0.out.cell 1 _ rfl
  have a2' := H0.out.cell 2 _ rfl
  have a3 := H0.out.cell 3 _ rfl
  have d0 := H1.out.cell 0 _ rfl
  have d1 := H1.out.cell 1 _ rfl
  have d2 := H1.out.cell 2 _ rfl
  have d3 := H1.out.cell 3 _ rfl
  clear k3 k6 HI0 HG0
  go_enter Tryz.func37, Tryz.ntmps37
  go_upto_region 1 with fail
  generalize (w.alloc (.cells #[.int .i64 G.num, .int .i64 G.qt, .slice (some ⟨sg, 0, none⟩) G.sN sc, .slice a1 G.m c1] 56)).alloc (.cells #[.int .i64 G.num, .int .i64 G.qt, .slice G.sa G.sN G.sc, .slice a2 G.m c2] 56) = W1 at *
  go_wp2_with (go_at_call 17; refine HSB.out.mono ?_; rintro e w1 ⟨rfl, rfl⟩)
  go_loopw [5] (fun x wr => ∃ k : Nat, k ≤ G.m ∧ x = .int .i64 k ∧ Hid (Below W1.heap.size W1 wr)) (fun x _ => G.m - (intOf x).toNat)
  case atStart => exact ⟨0, by omega, rfl, Lib.hid (Below.refl _ _)⟩
  case round =>
    clear a0 a1' a2' d0 d1 d2
    obtain ⟨k, hk, rfl, HW⟩ := hrel
    have a6 := (H0.out.below HW.out).cell 3 _ rfl
    have d6 := (H1.out.below HW.out).cell 3 _ rfl
    by_cases hkm : k < G.m
    · have kb : (0 : Int) ≤ (k : Int) ∧ (k : Int) < (G.m : Int) := by omega
      have ek : IntKind.i64.wrap ((k : Int) + 1) = (k : Int) + 1 := IntWalk.i64_in _ (by have h2q := k5; unfold maxLen at h2q; omega)
      rcases HK3.out with h0 | ⟨b1, o1, rfl, i1⟩
      · omega
      rcases HK6.out with h0 | ⟨b2, o2, rfl, i2⟩
      · omega
      obtain ⟨e1, r1⟩ := i1 k hkm
      obtain ⟨f1, r2⟩ := i2 k hkm
      have SM : Hid (∀ V, Below W1.heap.size W1 V → Calls Tryz.prog 28 #[mv (G.Ms k) (vb k), mv (G.Ms k) (G.vb k)] V fun e w' => e = .returned (.bool true) ∧ Below V.heap.size V w') := Lib.hid (fun V hV =>
        SameMacro_true (G.Ms k) (Q k) (C k) (vb k) (G.vb k) V ((show Short ((G.Ms k).cp (Q k) (C k)) from HSh.out.2.2 k hkm).at (r1.below hV)) ((HSh.out.2.2 k hkm).at (r2.below hV)))
      have c1 : ∀ i, i < 7 → wr.cell? ⟨b1, o1 + k * 7 + i, none⟩ = some (mcell (G.Ms k) (vb k) i) := fun i hi => (HW.out.cell (p := ⟨b1, o1 + k * 7 + i, none⟩) (World.block_lt_of_cell? _ _ (e1 i hi))).trans (e1 i hi)
      have c2 : ∀ i, i < 7 → wr.cell? ⟨b2, o2 + k * 7 + i, none⟩ = some (mcell (G.Ms k) (G.vb k) i) := fun i hi => (HW.out.cell (p := ⟨b2, o2 + k * 7 + i, none⟩) (World.block_lt_of_cell? _ _ (f1 i hi))).trans (f1 i hi)
      have q1 := Past.cell a6
      have q2 := Past.cell d6
      have x0 := Past.cell (show wr.cell? ⟨b1, o1 + k * 7, none⟩ = some (.int .i64 (G.Ms k).ad) from c1 0 (by omega))
      have x1 := Past.cell (show wr.cell? ⟨b1, o1 + k * 7 + 1, none⟩ = some (.int .i64 (G.Ms k).kd) from c1 1 (by omega))
      have x2 := Past.cell (show wr.cell? ⟨b1, o1 + k * 7 + 2, none⟩ = some (.int .i64 (G.Ms k).qt) from c1 2 (by omega))
      have x3 := Past.cell (show wr.cell? ⟨b1, o1 + k * 7 + 3, none⟩ = some (.int .i64 (G.Ms k).x) from c1 3 (by omega))
      have x4 := Past.cell (show wr.cell? ⟨b1, o1 + k * 7 + 4, none⟩ = some (.int .i64 (G.Ms k).y) from c1 4 (by omega))
      have x5 := Past.cell (show wr.cell? ⟨b1, o1 + k * 7 + 5, none⟩ = some (.int .i64 (G.Ms k).pt) from c1 5 (by omega))
      have x6 := Past.cell (show wr.cell? ⟨b1, o1 + k * 7 + 6, none⟩ = some (vb k) from c1 6 (by omega))
      have y0 := Past.cell (show wr.cell? ⟨b2, o2 + k * 7, none⟩ = some (.int .i64 (G.Ms k).ad) from c2 0 (by omega))
      have y1 := Past.cell (show wr.cell? ⟨b2, o2 + k * 7 + 1, none⟩ = some (.int .i64 (G.Ms k).kd) from c2 1 (by omega))
      have y2 := Past.cell (show wr.cell? ⟨b2, o2 + k * 7 + 2, none⟩ = some (.int .i64 (G.Ms k).qt) from c2 2 (by omega))
      have y3 := Past.cell (show wr.cell? ⟨b2, o2 + k * 7 + 3, none⟩ = some (.int .i64 (G.Ms k).x) from c2 3 (by omega))
      have y4 := Past.cell (show wr.cell? ⟨b2, o2 + k * 7 + 4, none⟩ = some (.int .i64 (G.Ms k).y) from c2 4 (by omega))
      have y5 := Past.cell (show wr.cell? ⟨b2, o2 + k * 7 + 5, none⟩ = some (.int .i64 (G.Ms k).pt) from c2 5 (by omega))
      have y6 := Past.cell (show wr.cell? ⟨b2, o2 + k * 7 + 6, none⟩ = some (G.vb k) from c2 6 (by omega))
      clear e1 r1 f1 r2 i1 i2 c1 c2
      go_upto_region 6 with fail
      clear a6 d6
      refine wp_region_past (by kernel_rfl) (by kernel_rfl) ?_
      repeat (go_big_quiet_step ((go_at_call 28; exact past_call (SM.out _ (chain HW.out (Past.kept _))))))
      refine wpQuiet_nil ?_
      rintro _ ⟨⟨w4, h4⟩, rfl⟩
      have HW := Lib.hid (chain HW.out h4)
      clear q1 q2 x0 x1 x2 x3 x4 x5 x6 y0 y1 y2 y3 y4 y5 y6 h4
      go_wp2_with fail
      go_roundw
      case rel => exact ⟨k + 1, by omega, by go_num, HW⟩
      case measure => simp [intOf]; omega
    · have kb : ¬ (k : Int) < (G.m : Int) := by omega
      go_wp2_with fail
      go_ret
      exact ⟨rfl, chain HB.out HW.out⟩
end
end Bl
end Go.Proofs.YtbmglemjfodfhaaGreat
namespace Go.Proofs.YtbmglemjfodfhaaGreat
open Go.RowKit
namespace Bl
open Bk Fr Pt Kd Bu
structure GC where (fo : Int) (G : GB) (mvv va : Value) (sg sc : Nat) (Q : Nat → Nat → Option Addr) (C : Nat → Nat → Nat) (vb : Nat → Value) (gb ib gi gL gM cL cM N N' NF fc : Nat) (fa : Option Addr) (F2 : Nat → Int) (W W1 : World)
structure GC.ok (c : GC) : Prop where
  gb : c.W.heap.size ≤ c.gb
  gi : c.gb < c.gi ∧ c.gi < c.W1.heap.size
  gL : c.W1.heap.size ≤ c.gL
  gM : c.gL < c.gM
  ib : c.gM < c.ib
  n1 : 0 < c.N' ∧ c.N' ≤ c.N
  n2 : c.NF ≤ 152064
  n3 : c.N ≤ 152064
  n4 : (c.N' : Int) = zV c.fo → c.N = c.N'
  cL : c.N' + 4 ≤ c.cL ∧ c.cL ≤ maxLen
  cM : c.NF + 4 ≤ c.cM ∧ c.cM ≤ maxLen
  raw : c.G.raw c.W c.mvv
  sh : ShortG c.G
  i : Ghi (c.gi + 1) c.W1 c.va c.G.m (cpM c.G.Ms c.Q c.C) c.vb
  sp : Arr c.W1 .u8 c.sg c.G.sN c.G.sf ∧ c.G.sN ≤ c.sc ∧ c.sc ≤ maxLen ∧ c.gi < c.sg ∧ c.sg < c.W1.heap.size
  f : Sl .u8 c.W1 (.slice c.fa c.NF c.fc) c.NF c.F2
  fn : ∀ x, c.fa = some x → x.block ≠ c.gi
  bd : ∀ i, 0 ≤ c.F2 i ∧ c.F2 i ≤ 255
structure GS (c : GC) (w : World) (fm ft : Nat → Int) : Prop where
  grp : At w c.gb #[.int .i64 c.G.num, .int .i64 c.G.qt, .slice c.G.sa c.G.sN c.G.sc, c.mvv] 56
  inn : At w c.ib #[.int .i64 c.G.num, .int .i64 c.G.qt, .slice (some ⟨c.sg, 0, none⟩) c.G.sN c.sc, c.va] 56
  mine : Arr w .u8 c.gL (c.N' + 4) fm
  tgt : Arr w .u8 c.gi c.N ft
  other : Arr w .u8 c.gM (c.NF + 4) (lentF c.NF c.F2)
  off : Off c.gi c.W1 w
  bel : Below c.W.heap.size c.W w
section
variable {c : GC} {w : World} {fm ft : Nat → Int}
theorem GS.g (h : GS c w fm ft) (ok : c.ok) : c.G.raw w c.mvv := ok.raw.below h.bel
theorem GS.i (h : GS c w fm ft) (ok : c.ok) : Gsl w c.va c.G.m (cpM c.G.Ms c.Q c.C) c.vb := ok.i.off h.off
theorem GS.s (h : GS c w fm ft) (ok : c.ok) : Sl .u8 w (.slice (some ⟨c.sg, 0, none⟩) c.G.sN c.sc) c.G.sN c.G.sf := by
  obtain ⟨h1, h2, h3, h4, h5⟩ := ok.sp
  refine ⟨_, _, rfl, h2, h3, .inr ⟨c.sg, 0, rfl, Nat.lt_of_lt_of_le h5 h.off.sz, fun i hi => ?_⟩⟩
  rw [Nat.zero_add]
  exact (h.off.cell _ _ h5 (by omega)).trans (h1 i hi).1
theorem GS.f (h : GS c w fm ft) (ok : c.ok) : Sl .u8 w (.slice c.fa c.NF c.fc) c.NF c.F2 := by
  obtain ⟨a, d, e, h1, h2, h3⟩ := ok.f
  cases e
  refine ⟨_, _, rfl, h1, h2, ?_⟩
  rcases h3 with h3 | ⟨b, o, e, h4, h5⟩
  · exact .inl h3
  · have hne : b ≠ c.gi := ok.fn _ e
    exact .inr ⟨b, o, e, Nat.lt_of_lt_of_le h4 h.off.sz, fun i hi => (h.off.cell _ _ h4 hne).trans (h5 i hi)⟩
theorem GS.below {w' : World} (h : GS c w fm ft) (ok : c.ok) (hb : Below w.heap.size w w') : GS c w' fm ft where
  grp := h.grp.below hb
  inn := h.inn.below hb
  mine := h.mine.below hb (h.mine.lt (by omega))
  tgt := h.tgt.below hb (h.tgt.lt (by have := ok.n1; omega))
  other := h.other.below hb (h.other.lt (by omega))
  off := h.off.below hb
  bel := chain h.bel hb
theorem GS.toMine {w' : World} {f' : Nat → Int} (h : GS c w fm ft) (ok : c.ok) (hA : Arr w' .u8 c.gL (c.N' + 4) f') (hg : w.grownBy w' (some c.gL)) : GS c w' f' ft := by
  have k2 := ok.gb; have k3 := ok.gi; have k4 := ok.gL; have k5 := ok.gM; have k6 := ok.ib
  exact {
    grp := h.grp.kept hg (fun e => by have := Option.some.inj e; omega)
    inn := h.inn.kept hg (fun e => by have := Option.some.inj e; omega)
    mine := hA
    tgt := h.tgt.grown hg (fun e => by have := Option.some.inj e; omega)
    other := h.other.grown hg (fun e => by have := Option.some.inj e; omega)
    off := h.off.row hg (.inr k4)
    bel := h.bel.grown hg h.bel.size (fun b e => by have := Option.some.inj e; omega) }
theorem GS.toTo {w' : World} {f' : Nat → Int} (h : GS c w fm ft) (ok : c.ok) (hA : Arr w' .u8 c.gi c.N f') (hg : w.grownBy w' (some c.gi)) : GS c w' fm f' := by
  have k2 := ok.gb; have k3 := ok.gi; have k4 := ok.gL; have k5 := ok.gM; have k6 := ok.ib
  exact {
    grp := h.grp.kept hg (fun e => by have := Option.some.inj e; omega)
    inn := h.inn.kept hg (fun e => by have := Option.some.inj e; omega)
    mine := h.mine.grown hg (fun e => by have := Option.some.inj e; omega)
    tgt := hA
    other := h.other.grown hg (fun e => by have := Option.some.inj e; omega)
    off := h.off.row hg (.inl rfl)
    bel := h.bel.grown hg h.bel.size (fun b e => by have := Option.some.inj e; omega) }
theorem GS.g1 (h : GS c w fm ft) (ok : c.ok) : Calls Tryz.prog 35 #[.slice (some ⟨c.gL, 0, none⟩) c.N' c.cL, .slice (some ⟨c.gM, 0, none⟩) c.NF c.cM, .int .i64 c.fo, .agg #[.int .i64 c.G.num, .int .i64 c.G.qt, .slice (some ⟨c.sg, 0, none⟩) c.G.sN c.sc, c.va]] w
    fun e w' => e = .returned (.int .i64 (gE c.G c.fo c.N' c.NF)) ∧ GS c w' (gpF c.G c.fo c.N' c.NF c.F2 fm) ft := by
  have k7 := ok.cL
  have k4 := ok.gL; have k5 := ok.gM
  obtain ⟨ma, mc, hva, q1, q2, q3⟩ := id ok.i
  have hi := h.i ok
  have hG : ∀ V, w.grownBy V (some c.gL) → Gsl V (.slice ma c.G.m mc) c.G.m (cpM c.G.Ms c.Q c.C) c.vb := fun V hV => by
    rw [← hva]
    exact ok.i.off (h.off.row hV (.inr k4))
  rw [hva] at hi
  have := Group_full (cpG c.G c.sg c.sc c.Q c.C c.vb) ma mc c.gL (c.N' + 4) c.cL (some ⟨c.gM, 0, none⟩) c.N' c.NF c.cM fm c.F2 c.fo w hi (fun j hj => ok.sh.2.2 j hj) h.mine (by omega) (by omega) (by omega) (Pa.lent_sl h.other ok.cM.1 ok.cM.2) ok.bd (fun _ x e => by cases e; show c.gM ≠ c.gL; omega) hG
    (fun h0 x e => by
      rcases q3 with h3 | ⟨b, e2, h4, h5, _⟩
      · exact absurd h0 (by show ¬ 0 < c.G.m; omega)
      · rw [e] at e2; cases e2; show b ≠ c.gL; omega)
  rw [gE_cp, gpF_cp] at this
  rw [hva]
  refine this.mono ?_
  rintro e w' ⟨h1, h2, h3⟩
  exact ⟨h1, h.toMine ok h2 h3⟩
theorem GS.g2 (h : GS c w fm ft) (ok : c.ok) : Calls Tryz.prog 36 #[.slice (some ⟨c.gi, 0, none⟩) c.N' c.N, .slice c.fa c.NF c.fc, .int .i64 c.fo, gv c.G c.mvv] w
    fun e w' => e = .returned (.int .i64 (gE c.G c.fo c.N' c.NF)) ∧ GS c w' fm (gpF c.G c.fo c.N' c.NF c.F2 ft) := by
  have n1 := ok.n1
  have k3 := ok.gi
  have k2 := ok.gb
  have hg := h.g ok
  obtain ⟨ma, mc, hmv, q1, q2, q3⟩ := id ok.raw.ms
  have hG : ∀ V, w.grownBy V (some c.gi) → Gsl V (.slice ma c.G.m mc) c.G.m c.G.Ms c.G.vb := fun V hV => by
    rw [← hmv]
    exact ok.raw.ms.below (h.bel.grown hV h.bel.size (fun b e => by have := Option.some.inj e; omega))
  have hms := hg.ms
  rw [hmv] at hms
  rw [hmv]
  refine (rGroup_any c.G ma mc c.gi c.N c.N c.fa c.N' c.NF c.fc ft c.F2 c.fo w hms (fun j hj => ok.sh.2.2 j hj) h.tgt n1.2 (by omega) ok.n4 (h.f ok) ok.bd (fun _ x e => ok.fn x e) hG).mono ?_
  rintro e w' ⟨h1, h2, h3⟩
  exact ⟨h1, h.toTo ok h2 h3⟩
end
end Bl
end Go.Proofs.YtbmglemjfodfhaaGreat
namespace Go.Proofs.YtbmglemjfodfhaaGreat
open Go.RowKit
namespace Bl
open Bk Fr Pt Kd Bu
set_option maxRecDepth 100000 in
set_option maxHeartbeats 8000000 in
set_option linter.unusedVariables false in
theorem BuildGroups_any (fo : Int) (G : GB) (mvv : Value) (A B L Mr : Int) (no : Bool) (w : World) (_ : (Lit.int .i64 fo).wf = true) (hG0 : G.raw w mvv) :
    Calls Tryz.prog 6 #[.int .i64 fo, gv G mvv, .agg #[.int .i64 A, .int .i64 B, .int .i64 L, .int .i64 Mr, .bool no]] w fun e w' => e = .returned (.bool true) ∧ Below w.heap.size w w' := by
  have HG0 := Lib.hid hG0
  clear hG0
  have HB := Lib.hid (((Below.refl w.heap.size w).alloc (Nat.le_refl _) (.cells #[.int .i64 G.num, .int .i64 G.qt, .slice G.sa G.sN G.sc, mvv] 56)).alloc (by simp) (.cells #[.int .i64 A, .int .i64 B, .int .i64 L, .int .i64 Mr, .bool no] 42))
  have H5 : Hid (At _ _ _ _) := Lib.hid ((At.new w #[.int .i64 G.num, .int .i64 G.qt, .slice G.sa G.sN G.sc, mvv] 56).below ((Below.refl _ _).alloc (Nat.le_refl _) (.cells #[.int .i64 A, .int .i64 B, .int .i64 L, .int .i64 Mr, .bool no] 42)))
  have H7 : Hid (At _ _ _ _) := Lib.hid (At.new (w.alloc (.cells #[.int .i64 G.num, .int .i64 G.qt, .slice G.sa G.sN G.sc, mvv] 56)) #[.int .i64 A, .int .i64 B, .int .i64 L, .int .i64 Mr, .bool no] 42)
  simp only [World.size_alloc] at H7
  have zb : w.heap.size + 2 ≤ ((w.alloc (.cells #[.int .i64 G.num, .int .i64 G.qt, .slice G.sa G.sN G.sc, mvv] 56)).alloc (.cells #[.int .i64 A, .int .i64 B, .int .i64 L, .int .i64 Mr, .bool no] 42)).heap.size := by simp
  have m0 := H5.out.cell 0 _ rfl
  have m1 := H5.out.cell 1 _ rfl
  have m2 := H5.out.cell 2 _ rfl
  have m3 := H5.out.cell 3 _ rfl
  go_enter Tryz.func6, Tryz.ntmps6
  go_upto_region 1 with fail
  generalize (w.alloc (.cells #[.int .i64 G.num, .int .i64 G.qt, .slice G.sa G.sN G.sc, mvv] 56)).alloc (.cells #[.int .i64 A, .int .i64 B, .int .i64 L, .int .i64 Mr, .bool no] 42) = W0 at *
  go_wp2_with fail
  refine (LongGroup_any G mvv _ (HG0.out.below HB.out)).mono ?_
  rintro e v1 ⟨bl, rfl, hsh, h1⟩
  have HB := Lib.hid (chain HB.out h1)
  have H5 := Lib.hid (H5.out.below h1)
  have H7 := Lib.hid (H7.out.below h1)
  have zb := Nat.le_trans zb h1.size
  have HSH := Lib.hid hsh
  clear h1 m0 m1 m2 m3 hsh
  cases bl with
  | true =>
    go_wp2_with (go_at_call 10; refine (awake_any _).mono ?_; rintro e w1 ⟨rfl, hw⟩; have HB := Lib.hid (chain HB.out hw); clear hw)
    go_ret
    exact ⟨rfl, HB.out⟩
  | false =>
  have HSG := Lib.hid (HSH.out rfl)
  clear HSH
  have c0 := H7.out.cell 0 _ rfl
  have c1 := H7.out.cell 1 _ rfl
  have c2 := H7.out.cell 2 _ rfl
  have c3 := H7.out.cell 3 _ rfl
  have c4 := H7.out.cell 4 _ rfl
  go_wp2_with fail
  refine (made_any A B L Mr no fo _).mono ?_
  rintro e v2 ⟨gi, N, N', F, fa, NF, fc, F2, rfl, hmd⟩
  have h2 := hmd.bel
  have HMd := Lib.hid hmd
  have HB := Lib.hid (chain HB.out h2)
  have H5 := Lib.hid (H5.out.below h2)
  clear h2 hmd c0 c1 c2 c3 c4 H7
  have m0 := H5.out.cell 0 _ rfl
  have m1 := H5.out.cell 1 _ rfl
  have m2 := H5.out.cell 2 _ rfl
  have m3 := H5.out.cell 3 _ rfl
  go_wp2_with fail
  refine (CopyGroup_any G mvv _ (HG0.out.below HB.out) HSG.out).mono ?_
  rintro e v3 ⟨sg, sc, Q, C, vb, va, rfl, hc, ha, s1, s2, s3, s4, h3⟩
  obtain ⟨xa, xm, xc, rfl⟩ := own_slice hc.own
  have HCp := Lib.hid hc
  have HSpA := Lib.hid ha
  have HB := Lib.hid (chain HB.out h3)
  have H5 := Lib.hid (H5.out.below h3)
  have H3 := Lib.hid h3
  have lgi := (HMd.out.a.lt (by have := HMd.out.n'; omega))
  have TO3 := Lib.hid (HMd.out.a.below h3 lgi)
  have FR3 := Lib.hid (HMd.out.s.below h3)
  have z3 := h3.size
  clear hc ha h3 m0 m1 m2 m3
  go_wp2_with fail
  refine (LentBytes_any _ N' F _ (by have := HMd.out.n'; have := HMd.out.nb; omega) (Pa.part_sl TO3.out (by have := HMd.out.n'; omega) HMd.out.n'.2 (by have := HMd.out.nb; unfold maxLen; omega))).mono ?_
  rintro e v4 ⟨gL, cL, rfl, l1, l2, l3, l4, hL, h4⟩
  have HL4 := Lib.hid hL
  have HB := Lib.hid (chain HB.out h4)
  have H5 := Lib.hid (H5.out.below h4)
  have TO4 := Lib.hid (TO3.out.below h4 (by omega))
  have FR4 := Lib.hid (FR3.out.below h4)
  have H4 := Lib.hid h4
  have z4 := h4.size
  clear hL h4
  go_wp2_with fail
  refine (LentBytes_any _ NF F2 _ (by have := HMd.out.nb; omega) FR4.out).mono ?_
  rintro e v5 ⟨gM, cM, rfl, j1, j2, j3, j4, hL, h5⟩
  have HO5 := Lib.hid hL
  have HB := Lib.hid (chain HB.out h5)
  have H5 := Lib.hid (H5.out.below h5)
  have HL5 := Lib.hid (HL4.out.below h5 l2)
  have TO5 := Lib.hid (TO4.out.below h5 (by omega))
  have HV := Lib.hid h5
  have z5 := h5.size
  clear hL h5
  go_upto_region 5 with fail
  have b6 := (Below.refl v5.heap.size v5).alloc (Nat.le_refl _) (.cells #[.int .i64 G.num, .int .i64 G.qt, .slice (some ⟨sg, 0, none⟩) G.sN sc, .slice xa xm xc] 56)
  have IN6 : At _ _ _ _ := At.new v5 #[.int .i64 G.num, .int .i64 G.qt, .slice (some ⟨sg, 0, none⟩) G.sN sc, .slice xa xm xc] 56
  have ok : GC.ok ⟨fo, G, mvv, .slice xa xm xc, sg, sc, Q, C, vb, w.heap.size, v5.heap.size, gi, gL, gM, cL, cM, N, N', NF, fc, fa, F2, w, v3⟩ := ⟨Nat.le_refl _, ⟨by have := HMd.out.lo; show w.heap.size < gi; omega, by show gi < v3.heap.size; omega⟩, l1, by show gL < gM; omega, j2, HMd.out.n', HMd.out.nb.2, HMd.out.nb.1,
    (fun e => by
      have hn := HMd.out.n
      show N = N'
      have e : (N' : Int) = zV fo := e
      have hb := HMd.out.n'
      have : fo = fo % 2 := by
        by_cases h : fo = 0 ∨ fo = 1
        · omega
        · unfold zV at e; rw [if_neg (by omega), if_neg (by omega)] at e; omega
      rw [← this] at hn
      omega), ⟨l3, l4⟩, ⟨j3, j4⟩, HG0.out, HSG.out, Ghi.mono (HCp.out.hi HSG.out) (by show gi + 1 ≤ v2.heap.size + 2; omega), ⟨HSpA.out, s1, s2, by show gi < sg; omega, s4⟩, FR3.out, HMd.out.ne, HMd.out.bd⟩
  have bs : GS ⟨fo, G, mvv, .slice xa xm xc, sg, sc, Q, C, vb, w.heap.size, v5.heap.size, gi, gL, gM, cL, cM, N, N', NF, fc, fa, F2, w, v3⟩ (v5.alloc (.cells #[.int .i64 G.num, .int .i64 G.qt, .slice (some ⟨sg, 0, none⟩) G.sN sc, .slice xa xm xc] 56)) (lentF N' F) F := ⟨H5.out.below b6, IN6, HL5.out.below b6 (by omega), TO5.out.below b6 (by omega), HO5.out.below b6 j2, (Off.below (Off.below (Off.below ⟨Nat.le_refl _, fun _ _ _ _ => rfl⟩ H4.out) HV.out) b6), chain HB.out b6⟩
  obtain ⟨K, hK⟩ : ∃ K : GC, (⟨fo, G, mvv, .slice xa xm xc, sg, sc, Q, C, vb, w.heap.size, v5.heap.size, gi, gL, gM, cL, cM, N, N', NF, fc, fa, F2, w, v3⟩ : GC) = K := ⟨_, rfl⟩
  have OK := Lib.hid ok
  obtain ⟨P0, hP0⟩ : ∃ P : World → Prop, P = fun V => GS ⟨fo, G, mvv, .slice xa xm xc, sg, sc, Q, C, vb, w.heap.size, v5.heap.size, gi, gL, gM, cL, cM, N, N', NF, fc, fa, F2, w, v3⟩ V (lentF N' F) F := ⟨_, rfl⟩
  obtain ⟨P1, hP1⟩ : ∃ P : World → Prop, P = fun V => GS ⟨fo, G, mvv, .slice xa xm xc, sg, sc, Q, C, vb, w.heap.size, v5.heap.size, gi, gL, gM, cL, cM, N, N', NF, fc, fa, F2, w, v3⟩ V (lentF N' (gpF G fo N' NF F2 F)) F := ⟨_, rfl⟩
  obtain ⟨P2, hP2⟩ : ∃ P : World → Prop, P = fun V => GS ⟨fo, G, mvv, .slice xa xm xc, sg, sc, Q, C, vb, w.heap.size, v5.heap.size, gi, gL, gM, cL, cM, N, N', NF, fc, fa, F2, w, v3⟩ V (lentF N' (gpF G fo N' NF F2 F)) (gpF G fo N' NF F2 F) := ⟨_, rfl⟩
  have S0 : Hid (P0 _) := Lib.hid (by rw [hP0]; exact bs)
  have CE : ∀ fm ft V, GS ⟨fo, G, mvv, .slice xa xm xc, sg, sc, Q, C, vb, w.heap.size, v5.heap.size, gi, gL, gM, cL, cM, N, N', NF, fc, fa, F2, w, v3⟩ V fm ft → V.cell? ⟨w.heap.size, 0, none⟩ = some (.int .i64 G.num) ∧ V.cell? ⟨w.heap.size, 1, none⟩ = some (.int .i64 G.qt) ∧ V.cell? ⟨w.heap.size, 2, none⟩ = some (.slice G.sa G.sN G.sc) ∧ V.cell? ⟨w.heap.size, 3, none⟩ = some mvv ∧ V.cell? ⟨v5.heap.size, 0, none⟩ = some (.int .i64 G.num) ∧ V.cell? ⟨v5.heap.size, 1, none⟩ = some (.int .i64 G.qt) ∧ V.cell? ⟨v5.heap.size, 2, none⟩ = some (.slice (some ⟨sg, 0, none⟩) G.sN sc) ∧ V.cell? ⟨v5.heap.size, 3, none⟩ = some (.slice xa xm xc) := fun fm ft V h =>
    ⟨h.grp.cell 0 _ rfl, h.grp.cell 1 _ rfl, h.grp.cell 2 _ rfl, h.grp.cell 3 _ rfl, h.inn.cell 0 _ rfl, h.inn.cell 1 _ rfl, h.inn.cell 2 _ rfl, h.inn.cell 3 _ rfl⟩
  have CE0 := Lib.hid (fun V (h : P0 V) => CE _ _ V (by rw [hP0] at h; exact h))
  have CE1 := Lib.hid (fun V (h : P1 V) => CE _ _ V (by rw [hP1] at h; exact h))
  have CE2 := Lib.hid (fun V (h : P2 V) => CE _ _ V (by rw [hP2] at h; exact h))
  have BE0 := Lib.hid (fun V V' (h : P0 V) (hb : Below V.heap.size V V') => show P0 V' by rw [hP0] at h ⊢; exact GS.below h ok hb)
  have BE2 := Lib.hid (fun V V' (h : P2 V) (hb : Below V.heap.size V V') => show P2 V' by rw [hP2] at h ⊢; exact GS.below h ok hb)
  have G1 : Hid (∀ V, P0 V → Calls Tryz.prog 35 #[.slice (some ⟨gL, 0, none⟩) N' cL, .slice (some ⟨gM, 0, none⟩) NF cM, .int .i64 fo, .agg #[.int .i64 G.num, .int .i64 G.qt, .slice (some ⟨sg, 0, none⟩) G.sN sc, .slice xa xm xc]] V fun e w' => e = .returned (.int .i64 (gE G fo N' NF)) ∧ P1 w') := Lib.hid (fun V h => by
    rw [hP0] at h
    have := GS.g1 h ok
    dsimp only at this
    rw [gpF_lent] at this
    rw [hP1]
    exact this)
  have G2 : Hid (∀ V, P1 V → Calls Tryz.prog 36 #[.slice (some ⟨gi, 0, none⟩) N' N, .slice fa NF fc, .int .i64 fo, gv G mvv] V fun e w' => e = .returned (.int .i64 (gE G fo N' NF)) ∧ P2 w') := Lib.hid (fun V h => by
    rw [hP1] at h
    have := GS.g2 h ok
    dsimp only at this
    rw [hP2]
    exact this)
  have KM : Hid (∀ V, P2 V → Calls Tryz.prog 25 #[.slice (some ⟨gL, 0, none⟩) N' cL, .slice (some ⟨gi, 0, none⟩) N' N] V fun e w' => e = .returned (.bool true) ∧ P2 w') := Lib.hid (fun V h => by
    rw [hP2] at h
    have n1 := ok.n1
    have n3 := ok.n3
    dsimp only at n1 n3
    refine (KeptBytes_row gL cL N' (some ⟨gi, 0, none⟩) N (gpF G fo N' NF F2 F) V (by omega) l3 l4 h.mine (Pa.part_sl h.tgt (by omega) n1.2 (by unfold maxLen; omega))).mono ?_
    rintro e w' ⟨h1, h2⟩
    refine ⟨h1, ?_⟩
    rw [hP2]
    exact GS.below h ok h2)
  have SG : Hid (∀ V, P2 V → Calls Tryz.prog 37 #[.agg #[.int .i64 G.num, .int .i64 G.qt, .slice (some ⟨sg, 0, none⟩) G.sN sc, .slice xa xm xc], gv G mvv] V fun e w' => e = .returned (.bool true) ∧ Below V.heap.size V w') := Lib.hid (fun V h => by
    rw [hP2] at h
    exact SameGroup_true G sg sc Q C vb _ mvv V (GS.i h ok) (GS.s h ok) (GS.g h ok) ok.sh)
  have KO : Hid (∀ V, P2 V → Calls Tryz.prog 25 #[.slice (some ⟨gM, 0, none⟩) NF cM, .slice fa NF fc] V fun e w' => e = .returned (.bool true) ∧ Below V.heap.size V w') := Lib.hid (fun V h => by
    rw [hP2] at h
    have n2 := ok.n2
    dsimp only at n2
    exact KeptBytes_row gM cM NF fa fc F2 V (by omega) j3 j4 h.other (GS.f h ok))
  have BW : Hid (∀ V, P2 V → Below w.heap.size w V) := Lib.hid (fun V h => by rw [hP2] at h; exact h.bel)
  obtain ⟨EE, hEE⟩ : ∃ x, gE G fo N' NF = x := ⟨_, rfl⟩
  rw [hEE] at G1 G2
  clear hEE hP0 hP1 hP2 hK ok bs b6 IN6 CE HMd HCp HSpA HB H5 H3 H4 HV TO3 TO4 TO5 FR3 FR4 HL4 HL5 HO5 HG0 HSG l1 l2 l3 l4 j1 j2 j3 j4 z3 z4 z5 zb lgi s1 s2 s3 s4 OK
  generalize v5.alloc (.cells #[.int .i64 G.num, .int .i64 G.qt, .slice (some ⟨sg, 0, none⟩) G.sN sc, .slice xa xm xc] 56) = W6 at *
  have S0 := Lib.hid (BE0.out _ _ S0.out ((Below.refl W6.heap.size W6).drew))
  have tE : (EE != EE) = false := by simp
  obtain ⟨m0, m1, m2, m3, i0, i1, i2, i3⟩ := CE0.out _ S0.out
  go_region_held3 (fun w' => w'.cell? ⟨w.heap.size, 0, none⟩ = some (.int .i64 G.num) ∧ w'.cell? ⟨w.heap.size, 1, none⟩ = some (.int .i64 G.qt) ∧ w'.cell? ⟨w.heap.size, 2, none⟩ = some (.slice G.sa G.sN G.sc) ∧ w'.cell? ⟨w.heap.size, 3, none⟩ = some mvv ∧ w'.cell? ⟨v5.heap.size, 0, none⟩ = some (.int .i64 G.num) ∧ w'.cell? ⟨v5.heap.size, 1, none⟩ = some (.int .i64 G.qt) ∧ w'.cell? ⟨v5.heap.size, 2, none⟩ = some (.slice (some ⟨sg, 0, none⟩) G.sN sc) ∧ w'.cell? ⟨v5.heap.size, 3, none⟩ = some (.slice xa xm xc))
    (first | exact CE0.out _ S0.out | exact CE1.out _ S1.out | exact CE2.out _ S2.out | exact CE2.out _ S3.out)
    (first
      | (go_at_call 35; refine (G1.out _ S0.out).mono ?_; rintro e V1 ⟨rfl, hS⟩; have S1 := Lib.hid hS; clear hS)
      | (go_at_call 36; refine (G2.out _ S1.out).mono ?_; rintro e V2 ⟨rfl, hS⟩; have S2 := Lib.hid hS; clear hS)
      | (go_at_call 25; refine (KM.out _ S2.out).mono ?_; rintro e V3 ⟨rfl, hS⟩; have S3 := Lib.hid hS; clear hS))
  clear m0 m1 m2 m3 i0 i1 i2 i3
  obtain ⟨m0, m1, m2, m3, i0, i1, i2, i3⟩ := CE2.out _ S3.out
  go_wp2_with (first
    | (go_at_call 37; refine (SG.out _ S3.out).mono ?_; rintro e V7 ⟨rfl, hb⟩; have S7 := Lib.hid (BE2.out _ _ S3.out hb); clear hb m0 m1 m2 m3 i0 i1 i2 i3)
    | (go_at_call 25; refine (KO.out _ S7.out).mono ?_; rintro e V8 ⟨rfl, hb⟩; have S8 := Lib.hid (BE2.out _ _ S7.out hb); clear hb)
    | (go_at_call 10; refine (awake_any _).mono ?_; rintro e V9 ⟨rfl, hb⟩; have S9 := Lib.hid (BE2.out _ _ S8.out hb); clear hb))
  go_ret
  exact ⟨rfl, BW.out _ S9.out⟩
end Bl
end Go.Proofs.YtbmglemjfodfhaaGreat
