/- The document's Get. -/
import Derived.Test.YteigdcbaojmfgaaDoorChT
import Derived.Test.YteigdcbaojmfgaaDoorChE
namespace Go.Proofs.YteigdcbaojmfgaaDoor
open Go.RowKit
set_option linter.unusedSimpArgs false
set_option linter.unusedVariables false
namespace Cf
section
set_option maxRecDepth 100000
set_option maxHeartbeats 4000000
set_option linter.unusedVariables false
theorem rRead_no (v : Value) (N : Nat) (q n : Nat) (w : World) (hN : N ≤ 1000000) (hv : ∃ a c, v = .slice a N c) (hn : n ≤ 32) (hq : q ≤ 8 * N) (h : 8 * N < q + n) :
    Calls Tryd.prog 34 #[v, .int .i64 q, .int .i64 n] w fun e w' => e = .returned (.tuple #[.int .i64 0, .int .i64 5]) ∧ w = w' := by
  obtain ⟨a, c, rfl⟩ := hv
  have HC := Lib.hid (fun V => rCount_any a N c V hN)
  have p0 : ¬ (q : Int) < 0 := by omega
  have n0 : ¬ (n : Int) < 0 := by omega
  have n1 : ¬ (32 : Int) < (n : Int) := by omega
  have q1 : ¬ 8 * (N : Int) < (q : Int) := by omega
  have q2 : wrap64 (8 * (N : Int) - (q : Int)) = 8 * (N : Int) - (q : Int) := w64 (by omega)
  have q3 : 8 * (N : Int) - (q : Int) < (n : Int) := by omega
  go_enter Tryd.func34, Tryd.ntmps34
  go_wp2_with (go_at_call 55; refine (HC.out _).mono ?_; rintro e w1 ⟨rfl, rfl⟩)
  go_ret2
  exact ⟨rfl, rfl⟩
/-- the result's cells. -/
structure RG (B : Nat) (w : World) (r l : Int) (V : World) : Prop where
  p : V.heap[B]? = some (.cells #[.int .i64 r, .int .i64 l] 26 (0, 0))
  bel : Below B w V
theorem Two.base {B B' : Nat} {W : World} {v1 v2 : Value} {l : List Ent} (h : Two B W v1 v2 l) (hb : B' ≤ B) : Two B' W v1 v2 l := ⟨own_base h.p hb, own_base h.c hb⟩
theorem RG.below {B : Nat} {w V V' : World} {r l : Int} (h : RG B w r l V) (hb : Below V.heap.size V V') : RG B w r l V' :=
  ⟨(hb.block _ (Array.getElem?_eq_some_iff.1 h.p).1).trans h.p, h.bel.trans (hb.mono (Nat.le_of_lt (Array.getElem?_eq_some_iff.1 h.p).1))⟩
theorem RG.set {B : Nat} {w V : World} {r l : Int} (h : RG B w r l V) (r' l' : Int) : RG B w r' l' ((V.setCell ⟨B, 0, none⟩ (.int .i64 r')).setCell ⟨B, 1, none⟩ (.int .i64 l')) :=
  ⟨ob_set (ob_set h.p 0 (.int .i64 r')) 1 (.int .i64 l'), (h.bel.setCell (p := ⟨B, 0, none⟩) (Nat.le_refl _) (.int .i64 r')).setCell (p := ⟨B, 1, none⟩) (Nat.le_refl _) (.int .i64 l')⟩
theorem RG.new (w : World) : RG w.heap.size w 0 0 (w.alloc (.cells #[.int .i64 0, .int .i64 0] 26)) :=
  ⟨heap_alloc_new w _, (Below.refl _ _).alloc (Nat.le_refl _) _⟩
theorem RG.facts {B : Nat} {w V : World} {r l : Int} (h : RG B w r l V) : V.frozen? ⟨B, 0, none⟩ = false ∧ V.frozen? ⟨B, 1, none⟩ = false ∧ V.cell? ⟨B, 0, none⟩ = some (.int .i64 r) ∧ V.cell? ⟨B, 1, none⟩ = some (.int .i64 l) ∧ B < V.heap.size :=
  ⟨frozen_of_row h.p 0, frozen_of_row h.p 1, cell_row h.p (i := 0) rfl, cell_row h.p (i := 1) rfl, (Array.getElem?_eq_some_iff.1 h.p).1⟩
theorem results_rget {fn : Func} {p q s t : Tmp} (hr : fn.results = #[.cell p 26, .tmp q, .tmp s, .tmp t]) (tmps : Array Value) {B : Nat} {w V : World} {r l : Int} {en : Bool} {n e : Int}
    (hp : tmps.getD p undef = .pointer (some ⟨B, 0, none⟩)) (hq : tmps.getD q undef = .bool en) (hs : tmps.getD s undef = .int .i64 n) (ht : tmps.getD t undef = .int .i64 e) (h : RG B w r l V) :
    (results fn tmps).run Tryd.prog V = .ok (.tuple #[prV r l, .bool en, .int .i64 n, .int .i64 e]) V := by
  obtain ⟨_, _, c0, c1, _⟩ := h.facts
  have hp' : tmps[p]?.getD undef = .pointer (some ⟨B, 0, none⟩) := by simpa using hp
  have hq' : tmps[q]?.getD undef = .bool en := by simpa using hq
  have hs' : tmps[s]?.getD undef = .int .i64 n := by simpa using hs
  have ht' : tmps[t]?.getD undef = .int .i64 e := by simpa using ht
  unfold prV
  simp [results, hr, hp', hq', hs', ht', asAddr, loadVar, go_sem, c0, c1, Tryd.underlying26, Tryd.underlying3]
theorem rGet_err (v : Value) (p : Int) (first : Bool) (w : World) (x y e : Int) (h0 : e ≠ 0) (h : Hid (∀ W, Below w.heap.size w W → Calls Tryd.prog 33 #[v, .int .i64 p, .bool first] W (TGot W (x, y, e)))) :
    Calls Tryd.prog 12 #[v, .int .i64 p, .bool first] w fun en w' => en = .returned (gErr e).val ∧ Below w.heap.size w w' := by
  have G0 := Lib.hid (RG.new w)
  have h1 : (e == 0) = false := by rw [beq_eq_false_iff_ne]; exact h0
  have h2 : (e != 0) = true := by simp [h0]
  clear h0
  go_enter Tryd.func12, Tryd.ntmps12
  go_wp2_with (go_at_call 33; refine (h.out _ G0.out.bel).mono ?_; rintro e w1 ⟨rfl, hb⟩; have G1 := Lib.hid (G0.out.below hb); obtain ⟨f0, f1, c0, c1, l0⟩ := G1.out.facts; clear hb)
  have G2 := G1.out.set 0 0
  exact bodyPost_ret (results_rget rfl _ rfl rfl rfl rfl G2) rfl ⟨rfl, G2.bel⟩
theorem rGet_fin (v : Value) (p : Int) (first : Bool) (w : World) (h : Hid (∀ W, Below w.heap.size w W → Calls Tryd.prog 33 #[v, .int .i64 p, .bool first] W (TGot W (1001, 2, 0)))) :
    Calls Tryd.prog 12 #[v, .int .i64 p, .bool first] w fun en w' => en = .returned (G5.mk 0 0 true 2 0).val ∧ Below w.heap.size w w' := by
  have G0 := Lib.hid (RG.new w)
  go_enter Tryd.func12, Tryd.ntmps12
  go_wp2_with (go_at_call 33; refine (h.out _ G0.out.bel).mono ?_; rintro e w1 ⟨rfl, hb⟩; have G1 := Lib.hid (G0.out.below hb); obtain ⟨f0, f1, c0, c1, l0⟩ := G1.out.facts; clear hb)
  have G2 := G1.out.set 0 0
  exact bodyPost_ret (results_rget rfl _ rfl rfl rfl rfl G2) rfl ⟨rfl, G2.bel⟩
theorem rGet_esc0 (v : Value) (N : Nat) (F : Nat → Int) (q : Nat) (first : Bool) (w : World) (hN : N ≤ 1000000) (hv : ∃ a c, v = .slice a N c) (hq : q + 6 ≤ 8 * N) (h20 : 8 * N < q + 20) (h : Hid (∀ W, Below w.heap.size w W → Calls Tryd.prog 33 #[v, .int .i64 (q : Int), .bool first] W (TGot W (1000, 6, 0)))) :
    Calls Tryd.prog 12 #[v, .int .i64 (q : Int), .bool first] w fun en w' => en = .returned (gErr 5).val ∧ Below w.heap.size w w' := by
  have G0 := Lib.hid (RG.new w)
  have HR := Lib.hid (fun W => rRead_no v N (q + 6) 14 W hN hv (by decide) (by omega) (by omega))
  rw [Int.natCast_add] at HR
  have q0 : (q : Int) ≤ 8000000 := by omega
  have hw : wrap64 ((q : Int) + 6) = (q : Int) + 6 := w64 (by omega)
  clear hv hq h20
  go_enter Tryd.func12, Tryd.ntmps12
  go_wp2_with (first
    | (go_at_call 33; refine (h.out _ G0.out.bel).mono ?_; rintro e w1 ⟨rfl, hb⟩; have G1 := Lib.hid (G0.out.below hb); obtain ⟨f0, f1, c0, c1, l0⟩ := G1.out.facts; clear hb)
    | (go_at_call 34; refine (HR.out _).mono ?_; rintro e w2 ⟨rfl, rfl⟩))
  have G2 := G1.out.set 0 0
  exact bodyPost_ret (results_rget rfl _ rfl rfl rfl rfl G2) rfl ⟨rfl, G2.bel⟩
theorem rGet_esc1 (v : Value) (N : Nat) (F : Nat → Int) (q : Nat) (first : Bool) (w : World) (hN : N ≤ 1000000) (hs : Sl .u8 w v N F) (hb : ∀ j, j < N → 0 ≤ F j ∧ F j ≤ 255) (h20 : q + 20 ≤ 8 * N) (h : Hid (∀ W, Below w.heap.size w W → Calls Tryd.prog 33 #[v, .int .i64 (q : Int), .bool first] W (TGot W (1000, 6, 0)))) :
    Calls Tryd.prog 12 #[v, .int .i64 (q : Int), .bool first] w fun en w' => en = .returned (escV (rdV F (q + 6) 14)).val ∧ Below w.heap.size w w' := by
  have G0 := Lib.hid (RG.new w)
  have HR := Lib.hid (fun W (hW : Below w.heap.size w W) => rRead_ok v N F (q + 6) 14 W hN (hs.below hW) hb (by decide) (by omega))
  rw [Int.natCast_add] at HR
  have q0 : (q : Int) ≤ 8000000 := by omega
  have hw : wrap64 ((q : Int) + 6) = (q : Int) + 6 := w64 (by omega)
  have bd := rdV_bd F (q + 6) 14
  have bd2 : 0 ≤ rdV F (q + 6) 14 ∧ rdV F (q + 6) 14 < 16384 := bd
  obtain ⟨x, hx⟩ : ∃ x, rdV F (q + 6) 14 = x := ⟨_, rfl⟩
  rw [hx] at HR bd2 ⊢
  have em : Int.tmod x 256 = x % 256 := Int.tmod_eq_emod_of_nonneg bd2.1
  have ed : Int.tdiv x 256 = x / 256 := Int.tdiv_eq_ediv_of_nonneg bd2.1
  obtain ⟨m, hm⟩ : ∃ m, x % 256 = m := ⟨_, rfl⟩
  obtain ⟨r, hr⟩ : ∃ m, x / 256 = m := ⟨_, rfl⟩
  have hm2 : 0 ≤ m ∧ m < 256 := by omega
  have hr2 : 0 ≤ r ∧ r < 64 := by omega
  have x0 := bd2.1
  have x1 := bd2.2
  have m0 := hm2.1
  have m1 := hm2.2
  have r0 := hr2.1
  have r1 := hr2.2
  unfold escV
  rw [hm, hr]
  rw [hm] at em
  rw [hr] at ed
  clear hs hb h20 bd bd2 hx hm2 hr2
  by_cases h0 : m = 0 ∨ m = 128
  · rw [if_pos h0]
    rcases h0 with rfl | rfl
    · go_enter Tryd.func12, Tryd.ntmps12
      go_wp2_with (first
        | (go_at_call 33; refine (h.out _ G0.out.bel).mono ?_; rintro e w1 ⟨rfl, hb⟩; have G1 := Lib.hid (G0.out.below hb); obtain ⟨f0, f1, c0, c1, l0⟩ := G1.out.facts; clear hb)
        | (go_at_call 34; refine (HR.out _ G1.out.bel).mono ?_; rintro e w2 ⟨rfl, rfl⟩))
      have G2 := G1.out.set 0 0
      exact bodyPost_ret (results_rget rfl _ rfl rfl rfl rfl G2) rfl ⟨rfl, G2.bel⟩
    · go_enter Tryd.func12, Tryd.ntmps12
      go_wp2_with (first
        | (go_at_call 33; refine (h.out _ G0.out.bel).mono ?_; rintro e w1 ⟨rfl, hb⟩; have G1 := Lib.hid (G0.out.below hb); obtain ⟨f0, f1, c0, c1, l0⟩ := G1.out.facts; clear hb)
        | (go_at_call 34; refine (HR.out _ G1.out.bel).mono ?_; rintro e w2 ⟨rfl, rfl⟩))
      have G2 := G1.out.set 0 0
      exact bodyPost_ret (results_rget rfl _ rfl rfl rfl rfl G2) rfl ⟨rfl, G2.bel⟩
  · rw [if_neg h0]
    have y0 : (m == 0) = false := by simp; omega
    have y1 : (m == 128) = false := by simp; omega
    clear h0
    by_cases hg : m > 128
    · rw [if_pos hg]
      go_enter Tryd.func12, Tryd.ntmps12
      go_wp2_with (first
        | (go_at_call 33; refine (h.out _ G0.out.bel).mono ?_; rintro e w1 ⟨rfl, hb⟩; have G1 := Lib.hid (G0.out.below hb); obtain ⟨f0, f1, c0, c1, l0⟩ := G1.out.facts; clear hb)
        | (go_at_call 34; refine (HR.out _ G1.out.bel).mono ?_; rintro e w2 ⟨rfl, rfl⟩))
      have G2 := G1.out.set r (m - 256)
      exact bodyPost_ret (results_rget rfl _ rfl rfl rfl rfl G2) rfl ⟨rfl, G2.bel⟩
    · rw [if_neg hg]
      go_enter Tryd.func12, Tryd.ntmps12
      go_wp2_with (first
        | (go_at_call 33; refine (h.out _ G0.out.bel).mono ?_; rintro e w1 ⟨rfl, hb⟩; have G1 := Lib.hid (G0.out.below hb); obtain ⟨f0, f1, c0, c1, l0⟩ := G1.out.facts; clear hb)
        | (go_at_call 34; refine (HR.out _ G1.out.bel).mono ?_; rintro e w2 ⟨rfl, rfl⟩))
      have G2 := G1.out.set r m
      exact bodyPost_ret (results_rget rfl _ rfl rfl rfl rfl G2) rfl ⟨rfl, G2.bel⟩
theorem rGet_code0 (v : Value) (N : Nat) (i n q : Nat) (first : Bool) (w : World) (hN : N ≤ 1000000) (hi : i < 63) (hn : n ≤ 13) (hv : ∃ a c, v = .slice a N c) (hq : q + n ≤ 8 * N) (h1 : 8 * N < q + n + 1) (h : Hid (∀ W, Below w.heap.size w W → Calls Tryd.prog 33 #[v, .int .i64 (q : Int), .bool first] W (TGot W ((i : Int), (n : Int), 0)))) :
    Calls Tryd.prog 12 #[v, .int .i64 (q : Int), .bool first] w fun en w' => en = .returned (gErr 5).val ∧ Below w.heap.size w w' := by
  have G0 := Lib.hid (RG.new w)
  have HR := Lib.hid (fun W => rRead_no v N (q + n) 1 W hN hv (by decide) (by omega) (by omega))
  rw [Int.natCast_add] at HR
  have q0 : (q : Int) ≤ 8000000 := by omega
  have n0 : (n : Int) ≤ 13 := by omega
  have i1 : ((i : Int) == 1001) = false := by simp; omega
  have i2 : ((i : Int) == 1000) = false := by simp; omega
  have hw : wrap64 ((q : Int) + (n : Int)) = (q : Int) + (n : Int) := w64 (by omega)
  clear hv hq h1
  go_enter Tryd.func12, Tryd.ntmps12
  go_wp2_with (first
    | (go_at_call 33; refine (h.out _ G0.out.bel).mono ?_; rintro e w1 ⟨rfl, hb⟩; have G1 := Lib.hid (G0.out.below hb); obtain ⟨f0, f1, c0, c1, l0⟩ := G1.out.facts; clear hb)
    | (go_at_call 34; refine (HR.out _).mono ?_; rintro e w2 ⟨rfl, rfl⟩))
  have G2 := G1.out.set 0 0
  exact bodyPost_ret (results_rget rfl _ rfl rfl rfl rfl G2) rfl ⟨rfl, G2.bel⟩
theorem rGet_code1 (v : Value) (N : Nat) (F : Nat → Int) (i n q : Nat) (first : Bool) (w : World) (hN : N ≤ 1000000) (hi : i < 63) (hn : n ≤ 13) (hs : Sl .u8 w v N F) (hb : ∀ j, j < N → 0 ≤ F j ∧ F j ≤ 255) (h1 : q + n + 1 ≤ 8 * N) (h : Hid (∀ W, Below w.heap.size w W → Calls Tryd.prog 33 #[v, .int .i64 (q : Int), .bool first] W (TGot W ((i : Int), (n : Int), 0)))) :
    Calls Tryd.prog 12 #[v, .int .i64 (q : Int), .bool first] w fun en w' => en = .returned (G5.mk (eI false i).run (if bitI F (q + n) = 1 then -((eI false i).lvl : Int) else (eI false i).lvl) false ((n : Int) + 1) 0).val ∧ Below w.heap.size w w' := by
  have G0 := Lib.hid (RG.new w)
  have HR := Lib.hid (fun W (hW : Below w.heap.size w W) => rRead_ok v N F (q + n) 1 W hN (hs.below hW) hb (by decide) (by omega))
  have erd : rdV F (q + n) 1 = bitI F (q + n) := by simp [rdV]
  rw [Int.natCast_add, erd] at HR
  have HC := Lib.hid (fun W => Coded_any W)
  have q0 : (q : Int) ≤ 8000000 := by omega
  have n0 : (n : Int) ≤ 13 := by omega
  have i1 : ((i : Int) == 1001) = false := by simp; omega
  have i2 : ((i : Int) == 1000) = false := by simp; omega
  have ii0 : (0 : Int) ≤ (i : Int) := by omega
  have ii1 : (i : Int) < 63 := by omega
  have hw : wrap64 ((q : Int) + (n : Int)) = (q : Int) + (n : Int) := w64 (by omega)
  have hsm := eI_small (first := false) hi
  obtain ⟨X, hX⟩ : ∃ X : Int, ((eI false i).run : Int) = X := ⟨_, rfl⟩
  obtain ⟨Y, hY⟩ : ∃ X : Int, ((eI false i).lvl : Int) = X := ⟨_, rfl⟩
  have y0 : 0 ≤ Y := by omega
  have y1 : Y ≤ 15 := by omega
  have HCC := Lib.hid (fun (W : World) (g1 c1 g2 c2 : Nat) (T : Two w.heap.size W (.slice (some ⟨g1, 0, none⟩) 63 c1) (.slice (some ⟨g2, 0, none⟩) 63 c2) (tab false)) => T.cells hi)
  have HEI : ((tab false).getD i ⟨0, 0, []⟩) = eI false i := rfl
  rw [HEI] at HCC
  rw [hX, hY] at HCC ⊢
  clear hs hb h1 erd hsm HEI hX hY
  have h01 := bitI_01 F (q + n)
  have ARM : True := trivial
  obtain ⟨b, hb⟩ : ∃ b, bitI F (q + n) = b := ⟨_, rfl⟩
  rw [hb] at HR h01 ⊢
  clear hb
  rcases h01 with rfl | rfl
  · rw [if_neg (by decide)]
    go_enter Tryd.func12, Tryd.ntmps12
    go_wp2_with (first
      | (go_at_call 33; refine (h.out _ G0.out.bel).mono ?_; rintro e w1 ⟨rfl, hb⟩; have G1 := Lib.hid (G0.out.below hb); obtain ⟨f0, f1, c0, c1, l0⟩ := G1.out.facts; clear hb)
      | (go_at_call 34; refine (HR.out _ G1.out.bel).mono ?_; rintro e w2 ⟨rfl, rfl⟩)
      | (go_at_call 35; refine (HC.out _).mono ?_; rintro e w3 ⟨g1, c1', g2, c2, rfl, hT, hB⟩; have G2 := Lib.hid (G1.out.below hB); have CC := HCC.out _ _ _ _ _ (hT.base (Nat.le_trans G1.out.bel.size (Nat.le_refl _))); have e0 := CC.1; have e1 := CC.2.1; obtain ⟨f0, f1, c0, c1, l0⟩ := G2.out.facts; clear CC hT hB))
    have G4 := (G2.out.set X Y).below ((Below.refl _ _).alloc (Nat.le_refl _) (.cells #[.int .i64 X, .int .i64 Y] 26))
    exact bodyPost_ret (results_rget rfl _ rfl rfl rfl rfl G4) rfl ⟨rfl, G4.bel⟩
  · rw [if_pos rfl]
    go_enter Tryd.func12, Tryd.ntmps12
    go_wp2_with (first
      | (go_at_call 33; refine (h.out _ G0.out.bel).mono ?_; rintro e w1 ⟨rfl, hb⟩; have G1 := Lib.hid (G0.out.below hb); obtain ⟨f0, f1, c0, c1, l0⟩ := G1.out.facts; clear hb)
      | (go_at_call 34; refine (HR.out _ G1.out.bel).mono ?_; rintro e w2 ⟨rfl, rfl⟩)
      | (go_at_call 35; refine (HC.out _).mono ?_; rintro e w3 ⟨g1, c1', g2, c2, rfl, hT, hB⟩; have G2 := Lib.hid (G1.out.below hB); have CC := HCC.out _ _ _ _ _ (hT.base (Nat.le_trans G1.out.bel.size (Nat.le_refl _))); have e0 := CC.1; have e1 := CC.2.1; obtain ⟨f0, f1, c0, c1, l0⟩ := G2.out.facts; clear CC hT hB))
    have G4 := (G2.out.set X (-Y)).below ((Below.refl _ _).alloc (Nat.le_refl _) (.cells #[.int .i64 X, .int .i64 (-Y)] 26))
    exact bodyPost_ret (results_rget rfl _ rfl rfl rfl rfl G4) rfl ⟨rfl, G4.bel⟩
theorem eI_code1 : ∀ first, ∀ i, i < 63 → (eI first i).run = (eI false i).run ∧ (eI first i).lvl = (eI false i).lvl := by decide +kernel
theorem rGet_any (v : Value) (N : Nat) (F : Nat → Int) (p : Int) (first : Bool) (w : World) (hN : N ≤ 1000000) (hs : Sl .u8 w v N F) (hb : ∀ j, j < N → 0 ≤ F j ∧ F j ≤ 255) (hp : p ≤ 9223372036854775807) :
    Calls Tryd.prog 12 #[v, .int .i64 p, .bool first] w fun e w' => e = .returned (getF F N p first).val ∧ Below w.heap.size w w' := by
  have hv : ∃ a c, v = .slice a N c := by obtain ⟨a, c, rfl, _⟩ := hs; exact ⟨a, c, rfl⟩
  have HR : Hid (∀ W, Below w.heap.size w W → Calls Tryd.prog 33 #[v, .int .i64 p, .bool first] W (TGot W (rdT first F N p))) := Lib.hid fun W hW => read_any v N F p first W hN (hs.below hW) hb hp
  by_cases h0 : p < 0
  · have e1 : rdT first F N p = (0, 0, 3) := by unfold rdT; rw [if_pos h0]
    have e2 : getF F N p first = gErr 3 := by unfold getF; rw [if_pos h0]
    rw [e1] at HR
    rw [e2]
    exact rGet_err v p first w 0 0 3 (by decide) HR
  obtain ⟨q, rfl⟩ : ∃ q : Nat, p = (q : Int) := ⟨p.toNat, by omega⟩
  have e1 := rdT_Q (first := first) (F := F) (N := N) h0
  rw [Int.toNat_natCast] at e1
  rw [e1] at HR
  by_cases h1 : 8 * (N : Int) < (q : Int)
  · have e2 : getF F N (q : Int) first = gErr 5 := by unfold getF; rw [if_neg h0, if_pos h1]
    have hS : S20 F N q = [] := by unfold S20; rw [show 8 * N - q = 0 by omega]; rfl
    have hsm := eI_small (first := first) (i := 0) (by decide)
    have e3 : rdQ first F N q = (0, 0, 5) := rd_near (i := 0) (by have := nOf_ge first; omega) (by rw [hS]; exact List.nil_prefix) (by
      rw [hS, cI_eI (by decide)]
      intro h
      rw [← h] at hsm
      simp at hsm)
    rw [e3] at HR
    rw [e2]
    exact rGet_err v _ first w 0 0 5 (by decide) HR
  have e2 : getF F N (q : Int) first = getB first (S20 F N q) := by unfold getF; rw [if_neg h0, if_neg h1]; rfl
  rw [e2]
  rcases rd_cases first F N q (by omega) with ⟨e, he, h, g⟩ | ⟨hf, h, g⟩ | ⟨h, hq, g⟩ | ⟨i, n, hi, hn, h, hq, g⟩
  · rw [h] at HR
    rw [g]
    exact rGet_err v _ first w 0 0 e (by omega) HR
  · rw [h] at HR
    rw [g]
    exact rGet_fin v _ first w HR
  · rw [h] at HR
    rcases g with ⟨h20, g⟩ | ⟨h20, g⟩
    · rw [g]
      exact rGet_esc0 v N F q first w hN hv hq h20 HR
    · rw [g]
      exact rGet_esc1 v N F q first w hN hs hb h20 HR
  · rw [h] at HR
    have hsm := eI_small (first := first) hi
    rcases g with ⟨h1, g⟩ | ⟨h1, g⟩
    · rw [g]
      exact rGet_code0 v N i n q first w hN hi (by omega) hv hq h1 HR
    · rw [g, (eI_code1 first i hi).1, (eI_code1 first i hi).2]
      exact rGet_code1 v N F i n q first w hN hi (by omega) hs hb h1 HR
end
end Cf
end Go.Proofs.YteigdcbaojmfgaaDoor
