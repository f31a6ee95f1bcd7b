/- cursor.pairs: the iterator, for every body. | block.Get: its parts. | block.Get: a pair is appended; its results. | block.Get, inter. | block.Get: a place that is none; bits that are not there. | block.Get, intra. -/
import Derived.Test.YtpibeocngkjolaaGreatDoorMgCfG
import Derived.Test.YtpibeocngkjolaaGreatDoorMgChU
import Derived.Test.YtpibeocngkjolaaGreatDoorMgDpC
import Derived.Test.YtpibeocngkjolaaGreatDoorMgDpN
import Derived.Test.YtpibeocngkjolaaGreatDoorMgDpX3
import Derived.Deep.RegionHeld3
import Derived.LoopIn
import Derived.LoopNIn
import Derived.OwnWalkIn
import Derived.Sort.CutIn
import Derived.Sort.LoopGhostIn
set_option linter.unusedVariables false
set_option linter.unusedSimpArgs false

namespace Go.Proofs.YtpibeocngkjolaaGreatDoor
open Go.RowKit Go.Shelf
attribute [local go_sem] Oper.semAt_some
set_option linter.unusedSimpArgs false
set_option linter.unusedVariables false
namespace Dk
open Cf Bk Sc
theorem cell_putObj {W : World} {l : Nat} {o o' : Obj} {a : Addr} {v : Value} (h : W.cell? a = some v) (hl : W.heap[l]? = some o) (ho : o.isCells = false) (hs : a.spot = none) : (W.putObj l o').cell? a = some v := by
  obtain ⟨b, i, sp⟩ := a
  obtain rfl : sp = none := hs
  have hne : b ≠ l := by
    rintro rfl
    simp only [World.cell?, hl] at h
    cases o with
    | cells _ _ _ => cases ho
    | _ => simp at h
  simp only [World.cell?, World.putObj_heap_other hne] at h ⊢
  exact h
theorem sl_putObj {W : World} {l : Nat} {o o' : Obj} {k : IntKind} {v : Value} {n : Nat} {f : Nat → Int} (h : Sl k W v n f) (hl : W.heap[l]? = some o) (ho : o.isCells = false) : Sl k (W.putObj l o') v n f := by
  obtain ⟨a, c, rfl, h1, h2, h3⟩ := h
  refine ⟨a, c, rfl, h1, h2, ?_⟩
  rcases h3 with h3 | ⟨b, ob, rfl, h4, h5⟩
  · exact .inl h3
  · exact .inr ⟨b, ob, rfl, by simpa using h4, fun i hi => cell_putObj (h5 i hi) hl ho rfl⟩
theorem tabs_keep {w w' : World} {b : Nat} {cs : Array Value} {t : TypeId} {fz : Nat × Nat} (h : Tabs w) (hg : w.grownBy w' (some b)) (hb : w.heap[b]? = some (.cells cs t fz)) (h1 : cs.size ≤ 2) (h3 : ∀ (j : Nat) x, cs[j]? ≠ some (.int .u8 x)) : Tabs w' := by
  refine ⟨?_, ?_⟩
  · have hs := h.sp
    unfold Lib.TabIs World.var? at hs ⊢
    cases hgm : Tryz.prog.globalNamed "strings.asciiSpace" with
    | none => rw [hgm] at hs; cases hs
    | some g =>
      rw [hgm] at hs
      simp only [Option.bind_some] at hs ⊢
      have hlt : g < w.heap.size := by
        rcases Nat.lt_or_ge g w.heap.size with h' | h'
        · exact h'
        · rw [Array.getElem?_eq_none (by omega)] at hs; cases hs
      have hne : g ≠ b := by
        rintro rfl
        rw [hb] at hs
        have e : cs = (Lib.asciiSpaceTab.map fun z => Value.int .u8 z).toArray := Option.some.inj hs
        have e2 : cs.size = 256 := by
          rw [e]
          simp
          decide +kernel
        omega
      rw [hg.block g hlt (fun e => hne (Option.some.inj e))]
      exact hs
  · have hj := h.bj
    have hlt := World.block_lt_of_cell? _ _ hj
    refine grown_cell hg (fun e => ?_) hj
    have e := Option.some.inj e
    rw [← e] at hb
    simp only [World.cell?, hb] at hj
    exact h3 1 1 hj
theorem sl_keep {w w' : World} {b : Nat} {cs : Array Value} {t : TypeId} {fz : Nat × Nat} {v : Value} {n : Nat} {f : Nat → Int} (h : Sl .u8 w v n f) (hg : w.grownBy w' (some b)) (hb : w.heap[b]? = some (.cells cs t fz)) (h3 : ∀ (j : Nat) x, cs[j]? ≠ some (.int .u8 x)) : Sl .u8 w' v n f := by
  obtain ⟨a, c, rfl, h1, h2, h4⟩ := h
  refine ⟨a, c, rfl, h1, h2, ?_⟩
  rcases h4 with h4 | ⟨bb, ob, rfl, h5, h6⟩
  · exact .inl h4
  · refine .inr ⟨bb, ob, rfl, Nat.lt_of_lt_of_le h5 hg.size, fun i hi => ?_⟩
    have hc := h6 i hi
    refine grown_cell hg (fun e => ?_) hc
    have e := Option.some.inj e
    rw [← e] at hb
    simp only [World.cell?, hb] at hc
    exact h3 _ _ hc
theorem no_u8_box (fb : Bool) : ∀ (j : Nat) x, (#[Value.bool fb] : Array Value)[j]? ≠ some (.int .u8 x)
  | 0, x => by simp
  | j + 1, x => by simp
theorem no_u8_cur (va : Option Addr) (N vc : Nat) (G : Int) : ∀ (j : Nat) x, (#[.slice va N vc, .int .i64 G] : Array Value)[j]? ≠ some (.int .u8 x)
  | 0, x => by simp
  | 1, x => by simp
  | j + 2, x => by simp
/-- what a round keeps: the cursor, its box, the box of 'first', the bytes, the tables. -/
def KpI (Bp Bf Bc : Nat) (v : Value) (N : Nat) (F : Nat → Int) (l : Nat) (W W' : World) : Prop :=
  W.heap.size ≤ W'.heap.size ∧ (∀ i, (i = Bp ∨ i = Bf ∨ i = Bc) → i ≠ l → ∀ o : Obj, W.heap[i]? = some o → W'.heap[i]? = some o) ∧ (Tabs W → Tabs W') ∧ (Sl .u8 W v N F → Sl .u8 W' v N F)
theorem kpI_t {Bp Bf Bc : Nat} {v : Value} {N : Nat} {F : Nat → Int} {l : Nat} {X Y Z : World} (h : KpI Bp Bf Bc v N F l X Y) (k : KpI Bp Bf Bc v N F l Y Z) : KpI Bp Bf Bc v N F l X Z :=
  ⟨Nat.le_trans h.1 k.1, fun i hi hl o ho => k.2.1 i hi hl o (h.2.1 i hi hl o ho), fun t => k.2.2.1 (h.2.2.1 t), fun s => k.2.2.2 (h.2.2.2 s)⟩
theorem kpI_l {Bp Bf Bc : Nat} {v : Value} {N : Nat} {F : Nat → Int} (l : Nat) (W : World) (o o' : Obj) (hl : W.heap[l]? = some o) (ho : o.isCells = false) : KpI Bp Bf Bc v N F l W (W.putObj l o') :=
  ⟨by simp, fun i _ hl2 o2 h2 => (World.putObj_heap_other (by omega)).trans h2, fun t => t.putObj hl ho, fun s => sl_putObj s hl ho⟩
theorem kpI_refl {Bp Bf Bc : Nat} {v : Value} {N : Nat} {F : Nat → Int} {l : Nat} (V : World) : KpI Bp Bf Bc v N F l V V := ⟨Nat.le_refl _, fun _ _ _ _ h => h, fun t => t, fun s => s⟩
theorem kpI_below {Bp Bf Bc : Nat} {v : Value} {N : Nat} {F : Nat → Int} {l : Nat} {V V' : World} (h : Below V.heap.size V V') : KpI Bp Bf Bc v N F l V V' :=
  ⟨h.size, fun i _ _ o ho => (h.block i (Array.getElem?_eq_some_iff.1 ho).1).trans ho, fun t => t.below h, fun s => s.below h⟩
/-- the iterator's own state in round k. -/
structure IT (Bp Bf Bc : Nat) (v : Value) (N : Nat) (F : Nat → Int) (fb : Bool) (G : Int) (V : World) : Prop where
  p : Boxed V Bp 58 (.pointer (some ⟨Bc, 0, none⟩))
  f : Boxed V Bf 4 (.bool fb)
  c : At V Bc #[v, .int .i64 G] 60
  t : Tabs V
  s : Sl .u8 V v N F
theorem IT.below {Bp Bf Bc : Nat} {v : Value} {N : Nat} {F : Nat → Int} {fb : Bool} {G : Int} {V V' : World} (h : IT Bp Bf Bc v N F fb G V) (hb : Below V.heap.size V V') : IT Bp Bf Bc v N F fb G V' :=
  ⟨h.p.kept (grown_of_below hb none) (by simp), h.f.kept (grown_of_below hb none) (by simp), h.c.below hb, h.t.below hb, h.s.below hb⟩
theorem IT.kp {Bp Bf Bc : Nat} {v : Value} {N : Nat} {F : Nat → Int} {fb : Bool} {G : Int} {l : Nat} {V V' : World} (h : IT Bp Bf Bc v N F fb G V) (hk : KpI Bp Bf Bc v N F l V V') (h1 : Bp ≠ l) (h2 : Bf ≠ l) (h3 : Bc ≠ l) : IT Bp Bf Bc v N F fb G V' :=
  ⟨hk.2.1 Bp (.inl rfl) h1 _ h.p, hk.2.1 Bf (.inr (.inl rfl)) h2 _ h.f, hk.2.1 Bc (.inr (.inr rfl)) h3 _ h.c, hk.2.2.1 h.t, hk.2.2.2 h.s⟩
def encP (F : Nat → Int) (N : Nat) (fi : Bool) (p0 : Int) (k : Nat) : Array Value := #[.agg #[.int .i64 (gg F N fi p0 k).r, .int .i64 (gg F N fi p0 k).l], .int .i64 (gg F N fi p0 k).e]
/-- how the iterator ends by itself. -/
def EndS (Bc : Nat) (v : Value) (F : Nat → Int) (N : Nat) (fi : Bool) (p0 : Int) (k : Nat) (V : World) : Prop :=
  ((gg F N fi p0 k).e = 0 ∧ (gg F N fi p0 k).en = true ∧ At V Bc #[v, .int .i64 (gp F N fi p0 (k + 1))] 60) ∨ (∃ j, k = j + 1 ∧ (gg F N fi p0 j).e ≠ 0)
theorem gp_bd2 {F : Nat → Int} {N : Nat} {fi : Bool} {p0 : Int} (h0 : 0 ≤ p0) : ∀ n, (∀ j, j < n → (gg F N fi p0 j).e = 0) → p0 + 2 * n ≤ gp F N fi p0 n ∧ (0 < n → gp F N fi p0 n ≤ 8 * (N : Int))
  | 0, _ => ⟨by simp [gp], fun h => by omega⟩
  | n + 1, h => by
    have ih := gp_bd2 h0 n (fun j hj => h j (by omega))
    have hn : GOk N (gp F N fi p0 n) (gg F N fi p0 n) := by
      rcases gg_cases (F := F) (N := N) (fi := fi) (p0 := p0) n with ⟨e, h1, h2⟩ | h1
      · have := h n (by omega)
        rw [h1] at this
        have : e = 0 := this
        omega
      · exact h1.2.2
    have a1 := hn.n2
    have a3 := hn.fit
    rw [gp_succ]
    omega
section
set_option maxRecDepth 100000
set_option maxHeartbeats 16000000
theorem cpairs_any (pp : Option Addr) (first : Bool) (w : World) : Calls Tryz.prog 37 #[.pointer pp, .bool first] w fun e w' => e = .returned (.func (.func 62) #[] #[.pointer (some ⟨w.heap.size, 0, none⟩), .pointer (some ⟨w.heap.size + 1, 0, none⟩)]) ∧ w' = (w.alloc (.cells #[.pointer pp] 58)).alloc (.cells #[.bool first] 4) := by
  go_enter Tryz.func37, Tryz.ntmps37
  go_wp2_with fail
  go_ret
  exact ⟨rfl, rfl⟩
theorem pairs1_in (va : Option Addr) (vc N : Nat) (F : Nat → Int) (fi : Bool) (p0 : Int) (hN : N ≤ 1000000) (hF : ∀ j, j < N → 0 ≤ F j ∧ F j ≤ 255) (h0p : 0 ≤ p0) (hp8 : p0 ≤ 8 * (N : Int)) (mm : Nat) (hm : 1 ≤ mm) (l Bp Bf Bc : Nat) (lp : Bp ≠ l) (lf : Bf ≠ l) (lc : Bc ≠ l) (hpf : Bp ≠ Bf) (hpc : Bp ≠ Bc) (hfc : Bf ≠ Bc) (J Jx : Nat → World → Prop) (W : World)
    (hJo : ∀ k A C, J k A → A.grownBy C none → J k C) (hJb : ∀ b, b = Bc ∨ b = Bf → ∀ k A C, J k A → A.grownBy C (some b) → J k C)
    (hY : ∀ k W1, J k W1 → k < 4 * N + 2 → (gg F N fi p0 k).en = false → YieldAt Fence.wide (mm - 1) Tryz.prog l (encP F N fi p0 k) W1 fun e W' =>
      (e = .returned (.bool true) ∧ J (k + 1) W' ∧ KpI Bp Bf Bc (.slice va N vc) N F l W1 W') ∨ (e = .returned (.bool false) ∧ Jx k W' ∧ KpI Bp Bf Bc (.slice va N vc) N F l W1 W'))
    (h0 : J 0 W) (h1 : IT Bp Bf Bc (.slice va N vc) N F fi p0 W) :
    CallsIn Fence.wide mm Tryz.prog 62 #[.func (.yield l) #[] #[], .pointer (some ⟨Bp, 0, none⟩), .pointer (some ⟨Bf, 0, none⟩)] W fun e W' => (∃ v, e = .returned v) ∧
      ((∃ k, EndS Bc (.slice va N vc) F N fi p0 k W' ∧ J k W') ∨ (∃ k, Jx k W')) := by
  have HY := Lib.hid hY
  have HJO := Lib.hid hJo
  have HJB := Lib.hid hJb
  have H0 := Lib.hid h0
  have H1 := Lib.hid (show IT Bp Bf Bc (.slice va N vc) N F (fi && decide (0 = 0)) (gp F N fi p0 0) W from by rw [decide_eq_true rfl, Bool.and_true]; exact h1)
  have HF := Lib.hid hF
  clear hY hJo hJb h0 h1 hF
  refine callsIn_of_wp Tryz.func62 rfl trivial ?_ rfl
  simp only [Tryz.ntmps62, List.size_toArray, List.length_cons, List.length_nil, Nat.reduceAdd, Nat.reduceSub, Array.replicate_succ, Array.replicate_zero, List.push_toArray, List.append_toArray, List.nil_append, List.cons_append]
  gi_wp2
  gi_loopg [7] (4 * N + 2) (fun m u wr => ∃ k : Nat, m + k = 4 * N + 2 ∧ Hid (∀ j, j < k → (gg F N fi p0 j).e = 0) ∧ Hid (J k wr) ∧ Hid (IT Bp Bf Bc (.slice va N vc) N F (fi && decide (k = 0)) (gp F N fi p0 k) wr))
  case atStart => exact ⟨0, by omega, Lib.hid (fun j hj => by omega), H0, H1⟩
  case round =>
    obtain ⟨k, hk, HE, HJ, HI⟩ := hrel
    clear H0 H1
    have hgb := gp_bd2 (F := F) (N := N) (fi := fi) h0p k HE.out
    have hgc := gg_cases (F := F) (N := N) (fi := fi) (p0 := p0) k
    obtain ⟨G, hG⟩ : ∃ G, gp F N fi p0 k = G := ⟨_, rfl⟩
    have hG0 : 0 ≤ G ∧ G ≤ 8 * (N : Int) ∧ k ≤ 4 * N := by
      rw [hG] at hgb
      by_cases h : 0 < k
      · have := hgb.2 h; omega
      · have : G = p0 := by rw [← hG]; obtain rfl : k = 0 := by omega
                            rfl
        omega
    have HGET : Hid (∀ V, Below wr.heap.size wr V → Calls Tryz.prog 63 #[.slice va N vc, .int .i64 G, .bool (fi && decide (k = 0))] V fun e w' => e = .returned (gg F N fi p0 k).val ∧ Below V.heap.size V w') := Lib.hid (fun V hV => by
      rw [← hG]
      exact Get_any _ N F _ _ V hN (HI.out.s.below hV) HF.out (HI.out.t.below hV))
    have HENC : Hid (encP F N fi p0 k = #[.agg #[.int .i64 (gg F N fi p0 k).r, .int .i64 (gg F N fi p0 k).l], .int .i64 (gg F N fi p0 k).e]) := Lib.hid rfl
    have HGS := Lib.hid (gp_succ (F := F) (N := N) (fi := fi) (p0 := p0) k)
    have HGE : Hid (gg F N fi p0 k = gg F N fi p0 k) := Lib.hid rfl
    have hgn : 0 ≤ (gg F N fi p0 k).n ∧ (gg F N fi p0 k).n ≤ 20 := by
      rcases hgc with ⟨e, h1, _⟩ | ⟨_, _, h⟩
      · rw [h1]; exact ⟨Int.le_refl _, (by decide : (0 : Int) ≤ 20)⟩
      · exact ⟨by have := h.n2; omega, h.n20⟩
    have hee : (gg F N fi p0 k).en = true → (gg F N fi p0 k).e = 0 := fun h => by
      rcases hgc with ⟨e, h1, _⟩ | ⟨h1, _⟩
      · rw [h1] at h; cases h
      · exact h1
    rw [hG] at HGS HI
    generalize hgv : gg F N fi p0 k = gv at HGET HENC HGS hgn hee
    have HGV := Lib.hid hgv
    clear hgc hgb hG HGE hgv
    obtain ⟨gr, gl, gen, gn, ge⟩ := gv
    unfold G5.val prV at HGET
    dsimp only at HGET HENC HGS hgn hee
    have ew : wrap64 (G + gn) = G + gn := w64 (by omega)
    obtain ⟨fb, hfb⟩ : ∃ b : Bool, (fi && decide (k = 0)) = b := ⟨_, rfl⟩
    rw [hfb] at HI HGET
    clear hfb
    have k0 := HI.out.p.cell
    have k1 := HI.out.f.cell
    have k2 := HI.out.c.cell 0 _ rfl
    have k3 := HI.out.c.cell 1 _ rfl
    refine wpIn_wide.2 ?_
    go_upto_region 0 with fail
    go_cut [4, 5, 6, 7] (fun a b c d wx => ∃ PB, a = .pointer (some ⟨PB, 0, none⟩) ∧ b = .bool gen ∧ c = .int .i64 gn ∧ d = .int .i64 ge ∧ Hid (Below wr.heap.size wr wx ∧ wr.heap.size ≤ PB ∧ wx.cell? ⟨PB, 0, none⟩ = some (.int .i64 gr) ∧ wx.cell? ⟨PB, 1, none⟩ = some (.int .i64 gl)))
    case first =>
      have W0 := Lib.hid (show Below wr.heap.size wr wr.drew from (Below.refl _ _).drew)
      have AL := Lib.hid (fun (V : World) => heap_alloc_new V (.cells #[.int .i64 0, .int .i64 0] 69))
      have KC := Lib.hid (fun (V : World) (h : Below wr.heap.size wr V) => And.intro ((h.cell (World.block_lt_of_cell? _ _ k0)).trans k0) (And.intro ((h.cell (World.block_lt_of_cell? _ _ k1)).trans k1) (And.intro ((h.cell (World.block_lt_of_cell? _ _ k2)).trans k2) ((h.cell (World.block_lt_of_cell? _ _ k3)).trans k3))))
      clear hee hgn ew HJ HI HENC HGS HGV HE
      go_region_held3 (fun w' => w'.cell? ⟨Bp, 0, none⟩ = some (.pointer (some ⟨Bc, 0, none⟩)) ∧ w'.cell? ⟨Bf, 0, none⟩ = some (.bool fb) ∧ w'.cell? ⟨Bc, 0, none⟩ = some (.slice va N vc) ∧ w'.cell? ⟨Bc, 1, none⟩ = some (.int .i64 G))
        (first | exact KC.out _ KB1.out | exact KC.out _ ((KB1.out.setCell (p := ⟨wr.heap.size, 0, none⟩) (Nat.le_refl _) _).setCell (p := ⟨wr.heap.size, 1, none⟩) (Nat.le_refl _) _) | exact KC.out _ (KB1.out.alloc KB1.out.size _) | exact KC.out _ W0.out | exact KC.out _ (W0.out.alloc W0.out.size _))
        (first
          | (go_at_call 63; refine (HGET.out _ W0.out).mono ?_; rintro e V1 ⟨rfl, hb⟩; have KB1 := Lib.hid (chain W0.out hb); clear hb)
          | (go_at_call 63; refine (HGET.out _ (W0.out.alloc (Nat.le_refl _) _)).mono ?_; rintro e V1 ⟨rfl, hb⟩; have KB1 := Lib.hid (chain (W0.out.alloc (Nat.le_refl _) _) hb); have q : V1.heap[wr.heap.size]? = some (.cells #[.int .i64 0, .int .i64 0] 69 (0, 0)) := (hb.block _ (Array.getElem?_eq_some_iff.1 (AL.out wr.drew)).1).trans (AL.out wr.drew); have q0 := cell_row q (i := 0) rfl; have q1 := cell_row q (i := 1) rfl; have f0 := frozen_of_row q 0; have f1 := frozen_of_row q 1; have QQ := Lib.hid q; clear hb q))
      · go_wp2_with fail
        go_meet
        exact ⟨V1.heap.size, rfl, rfl, rfl, rfl, Lib.hid ⟨KB1.out.alloc KB1.out.size _, KB1.out.size, cell_row (heap_alloc_new V1 _) (i := 0) rfl, cell_row (heap_alloc_new V1 _) (i := 1) rfl⟩⟩
      · have q2 := ob_set (ob_set QQ.out 0 (.int .i64 gr)) 1 (.int .i64 gl)
        go_wp2_with fail
        go_meet
        exact ⟨wr.heap.size, rfl, rfl, rfl, rfl, Lib.hid ⟨(KB1.out.setCell (p := ⟨wr.heap.size, 0, none⟩) (Nat.le_refl _) _).setCell (p := ⟨wr.heap.size, 1, none⟩) (Nat.le_refl _) _, Nat.le_refl _, cell_row q2 (i := 0) rfl, cell_row q2 (i := 1) rfl⟩⟩
    case rest =>
      obtain ⟨PB, rfl, rfl, rfl, rfl, HC⟩ := hcut
      have HI1 := Lib.hid (HI.out.below HC.out.1)
      have HJ1 := Lib.hid (HJO.out _ _ _ HJ.out (grown_of_below HC.out.1 none))
      have zP := HI.out.p.lt
      have zF := HI.out.f.lt
      have zC := HI.out.c.lt
      have nF : PB ≠ Bf := by have := HC.out.2.1; omega
      have nC : PB ≠ Bc := by have := HC.out.2.1; omega
      have y0 := HC.out.2.2.1
      have y1 := HC.out.2.2.2
      have j0 := HI1.out.p.cell
      have j1 := HI1.out.f.cell
      have j2 := HI1.out.c.cell 1 _ rfl
      have f1 := HI1.out.f.frozen
      have f2 := frozen_of_row HI1.out.c 1
      have g1 := grown_cell2 wc Bf 0 (.bool false)
      have g2 := grown_cell2 (wc.setCell ⟨Bf, 0, none⟩ (.bool false)) Bc 1 (.int .i64 (G + gn))
      have HJ2 := Lib.hid (HJB.out Bc (.inl rfl) _ _ _ (HJB.out Bf (.inr rfl) _ _ _ HJ1.out g1) g2)
      have HI2 : Hid (IT Bp Bf Bc (.slice va N vc) N F false (G + gn) ((wc.setCell ⟨Bf, 0, none⟩ (.bool false)).setCell ⟨Bc, 1, none⟩ (.int .i64 (G + gn)))) := Lib.hid
        ⟨(HI1.out.p.kept g1 (fun e => hpf (Option.some.inj e))).kept g2 (fun e => hpc (Option.some.inj e)), (HI1.out.f.set (.bool false)).kept g2 (fun e => hfc (Option.some.inj e)), ob_set (HI1.out.c.kept g1 (fun e => hfc (Option.some.inj e).symm)) 1 (.int .i64 (G + gn)),
          tabs_keep (tabs_keep HI1.out.t g1 HI1.out.f (show (1 : Nat) ≤ 2 by decide) (no_u8_box fb)) g2 (HI1.out.c.kept g1 (fun e => hfc (Option.some.inj e).symm)) (show (2 : Nat) ≤ 2 by decide) (no_u8_cur va N vc G),
          sl_keep (sl_keep HI1.out.s g1 HI1.out.f (no_u8_box fb)) g2 (HI1.out.c.kept g1 (fun e => hfc (Option.some.inj e).symm)) (no_u8_cur va N vc G)⟩
      have x0 := grown_cell g2 (fun e => nC (Option.some.inj e)) (grown_cell g1 (fun e => nF (Option.some.inj e)) y0)
      have x1 := grown_cell g2 (fun e => nC (Option.some.inj e)) (grown_cell g1 (fun e => nF (Option.some.inj e)) y1)
      clear k0 k1 k2 k3 y0 y1 g1 g2 HC HI HJ HI1 HJ1 zP zF zC nF nC
      go_upto_region 3 with fail
      generalize (wc.setCell ⟨Bf, 0, none⟩ (.bool false)).setCell ⟨Bc, 1, none⟩ (.int .i64 (G + gn)) = W2 at *
      clear j0 j1 j2 f1 f2
      cases gen with
      | true =>
        have HGE0 := Lib.hid (hee rfl)
        clear hee
        go_wp2_with fail
        refine bodyPost_ret (results_none rfl _ _ _) rfl ?_
        exact ⟨⟨_, rfl⟩, .inl ⟨k, .inl ⟨by rw [HGV.out]; exact HGE0.out, by rw [HGV.out], by rw [HGS.out]; exact HI2.out.c⟩, HJ2.out⟩⟩
      | false =>
        refine (wpIn_wide (n := mm)).1 ?_
        have hy0 := HY.out k W2 HJ2.out (by omega) (by rw [HGV.out])
        obtain ⟨fn, tmps, assign, body, hy, _, hR⟩ := yield_wide (r := 0) (m' := mm - 1) hy0
        rw [HENC.out] at hy
        have FIN : Hid (∀ W3, KpI Bp Bf Bc (.slice va N vc) N F l W2 W3 → ge = 0 → (∀ j, j < k + 1 → (gg F N fi p0 j).e = 0) ∧ IT Bp Bf Bc (.slice va N vc) N F (fi && decide (k + 1 = 0)) (gp F N fi p0 (k + 1)) W3) := Lib.hid (fun W3 hK h0 => ⟨fun j hj => by
            by_cases e : j = k
            · subst e; rw [HGV.out]; exact h0
            · exact HE.out j (by omega), by
            rw [HGS.out, decide_eq_false (by omega), Bool.and_false]
            exact HI2.out.kp hK lp lf lc⟩)
        by_cases hge : ge = 0
        · have t1 : (ge != 0) = false := by simp [hge]
          have FN := Lib.hid (fun W3 hK => FIN.out W3 hK hge)
          clear hy0 HENC hee hge FIN HI2 HJ2 HE hgn ew
          gi_wp2
          refine hR.mono ?_
          rintro e W3 (⟨rfl, hJ3, hK3⟩ | ⟨rfl, hJx3, hK3⟩)
          · gi_wp2
            go_wp2_with fail
            gi_roundg (gk - 1)
            case measure => omega
            case rel => exact ⟨k + 1, by omega, Lib.hid (FN.out W3 hK3).1, Lib.hid hJ3, Lib.hid (FN.out W3 hK3).2⟩
          · gi_wp2
            go_wp2_with fail
            refine bodyPost_ret (results_none rfl _ _ _) rfl ?_
            exact ⟨⟨_, rfl⟩, .inr ⟨k, hJx3⟩⟩
        · have t1 : (ge != 0) = true := by simp [hge]
          have HNE : Hid (ge ≠ 0) := Lib.hid hge
          clear hy0 HENC hee hge FIN HI2 HJ2 HE hgn ew
          gi_wp2
          refine hR.mono ?_
          rintro e W3 (⟨rfl, hJ3, hK3⟩ | ⟨rfl, hJx3, hK3⟩)
          · gi_wp2
            go_wp2_with fail
            refine bodyPost_ret (results_none rfl _ _ _) rfl ?_
            exact ⟨⟨_, rfl⟩, .inl ⟨k + 1, .inr ⟨k, rfl, by rw [HGV.out]; exact HNE.out⟩, hJ3⟩⟩
          · gi_wp2
            go_wp2_with fail
            refine bodyPost_ret (results_none rfl _ _ _) rfl ?_
            exact ⟨⟨_, rfl⟩, .inr ⟨k, hJx3⟩⟩
end
end Dk
end Go.Proofs.YtpibeocngkjolaaGreatDoor

namespace Go.Proofs.YtpibeocngkjolaaGreatDoor
open Go.RowKit Go.Shelf
attribute [local go_sem] Oper.semAt_some
set_option linter.unusedSimpArgs false
set_option linter.unusedVariables false
namespace Dk
open Cf Bk Sc
theorem pairs_seq (va : Option Addr) (vc N : Nat) (F : Nat → Int) (fi : Bool) (p0 : Int) (hN : N ≤ 1000000) (hF : ∀ j, j < N → 0 ≤ F j ∧ F j ≤ 255) (h0p : 0 ≤ p0) (hp8 : p0 ≤ 8 * (N : Int)) (mm : Nat) (hm : 1 ≤ mm) (Bp Bf Bc : Nat) (hpf : Bp ≠ Bf) (hpc : Bp ≠ Bc) (hfc : Bf ≠ Bc) (w : World) (h1 : IT Bp Bf Bc (.slice va N vc) N F fi p0 w) :
    SeqC mm Tryz.prog 62 #[.pointer (some ⟨Bp, 0, none⟩), .pointer (some ⟨Bf, 0, none⟩)] (encP F N fi p0) (KpI Bp Bf Bc (.slice va N vc) N F) (EndS Bc (.slice va N vc) F N fi p0) (fun k => (gg F N fi p0 k).en = false) (4 * N + 2) Bc Bf w := by
  intro l J Jx W hW hl hlW hJ hJx hJb hY h0
  have z1 := h1.p.lt
  have z2 := h1.f.lt
  have z3 := h1.c.lt
  exact pairs1_in va vc N F fi p0 hN hF h0p hp8 mm hm l Bp Bf Bc (by omega) (by omega) (by omega) hpf hpc hfc J Jx W (fun k A C h hg => hJ k A C none h hg (fun r e => by cases e)) hJb hY h0 (h1.below hW)
theorem ownP_own {B : Nat} (D : Nat) (v : Value) (n : Nat) (r l : Nat → Int) {β : Type} : OwnFrom B (fun (_ : β) V => OwnP V D v n r l) := fun _ A C row h hg hr => by
  refine World.ownsRow.kept h hg ?_
  by_cases h0 : v.ownBlock = none
  · exact .inl h0
  · refine .inr fun e => ?_
    rcases h.2 with ⟨rfl, _⟩ | ⟨g, cap, cur, rfl, _, hgg, _⟩
    · simp [Value.ownBlock] at h0
    · obtain ⟨_, o, ho, hc⟩ := hr g (by rw [← e]; rfl)
      rw [hgg] at ho
      have := Option.some.inj ho
      rw [← this] at hc
      cases hc
/-- what block.Get holds while it ranges. -/
structure GS (w : World) (dc : Int) (intra : Bool) (q : Option Addr) (k cc : Nat) (r l : Nat → Int) (lf : Int) (V : World) : Prop where
  r6 : At V w.heap.size #[.int .i64 0, .slice none 0 0] 27
  r7 : Boxed V (w.heap.size + 1) 3 (.int .i64 0)
  r8 : Boxed V (w.heap.size + 2) 28 (.int .i64 0)
  kd : At V (w.heap.size + 4) #[.int .i64 dc, .slice q k cc, .bool intra] 62
  lf : Boxed V (w.heap.size + 5) 3 (.int .i64 lf)
  o : OwnP V (w.heap.size + 8) (.slice q k cc) k r l
  b : Below w.heap.size w V
  z : w.heap.size + 8 ≤ V.heap.size
theorem GS.grown {w : World} {dc : Int} {intra : Bool} {q : Option Addr} {k cc : Nat} {r l : Nat → Int} {lf : Int} {V V' : World} {row : Option Nat} (h : GS w dc intra q k cc r l lf V) (hg : V.grownBy V' row) (h1 : ∀ x, row = some x → w.heap.size + 5 < x ∨ x = w.heap.size + 3) (h2 : (Value.slice q k cc).ownBlock = none ∨ (Value.slice q k cc).ownBlock ≠ row) : GS w dc intra q k cc r l lf V' := by
  have ne : ∀ b, b ≤ w.heap.size + 5 → b ≠ w.heap.size + 3 → some b ≠ row := fun b hb hb2 e => by have := h1 b e.symm; omega
  exact ⟨h.r6.kept hg (ne _ (by omega) (by omega)), h.r7.kept hg (ne _ (by omega) (by omega)), h.r8.kept hg (ne _ (by omega) (by omega)), h.kd.kept hg (ne _ (by omega) (by omega)), h.lf.kept hg (ne _ (by omega) (by omega)), World.ownsRow.kept h.o hg h2, h.b.grown hg h.b.size (fun g e => by have := h1 g e; omega), Nat.le_trans h.z hg.size⟩
theorem GS.own {w : World} {dc : Int} {intra : Bool} {q : Option Addr} {k cc : Nat} {r l : Nat → Int} {lf : Int} {V V' : World} {row : Option Nat} (h : GS w dc intra q k cc r l lf V) (hg : V.grownBy V' row) (hr : ∀ x, row = some x → w.heap.size + 8 ≤ x ∧ ∃ o : Obj, V.heap[x]? = some o ∧ o.isCells = false) : GS w dc intra q k cc r l lf V' :=
  h.grown hg (fun x e => .inl (by have := (hr x e).1; omega)) (by
    by_cases h0 : (Value.slice q k cc).ownBlock = none
    · exact .inl h0
    · refine .inr fun e => ?_
      rcases h.o.2 with ⟨h1, _⟩ | ⟨g, cap, cur, h1, _, hgg, _⟩
      · rw [h1] at h0; simp [Value.ownBlock] at h0
      · rw [h1] at e
        obtain ⟨_, o, ho, hc⟩ := hr g (by rw [← e]; rfl)
        rw [hgg] at ho
        have := Option.some.inj ho
        rw [← this] at hc
        cases hc)
theorem GS.keep {w : World} {dc : Int} {intra : Bool} {q : Option Addr} {k cc : Nat} {r l : Nat → Int} {lf : Int} {V V' : World} {b : Nat} (h : GS w dc intra q k cc r l lf V) (hb : b = w.heap.size + 3 ∨ b = w.heap.size + 7) (hg : V.grownBy V' (some b)) : GS w dc intra q k cc r l lf V' :=
  h.grown hg (fun x e => by have := Option.some.inj e; omega) (by
    by_cases h0 : (Value.slice q k cc).ownBlock = none
    · exact .inl h0
    · exact .inr fun e => by have := (h.o.lt _ e).1; omega)
theorem GS.below {w : World} {dc : Int} {intra : Bool} {q : Option Addr} {k cc : Nat} {r l : Nat → Int} {lf : Int} {V V' : World} (h : GS w dc intra q k cc r l lf V) (hb : Below V.heap.size V V') : GS w dc intra q k cc r l lf V' :=
  h.grown (grown_of_below hb none) (fun x e => by cases e) (by
    by_cases h0 : (Value.slice q k cc).ownBlock = none
    · exact .inl h0
    · exact .inr h0)
/-- the three results, written. -/
def set3 (w V : World) (d : Int) (q : Option Addr) (n c : Nat) (b E : Int) : World := (((V.setCell ⟨w.heap.size, 0, none⟩ (.int .i64 d)).setCell ⟨w.heap.size, 1, none⟩ (.slice q n c)).setCell ⟨w.heap.size + 1, 0, none⟩ (.int .i64 b)).setCell ⟨w.heap.size + 1 + 1, 0, none⟩ (.int .i64 E)
theorem set3_other {w V : World} {d : Int} {q : Option Addr} {n c : Nat} {b E : Int} {i : Nat} (h : i ≠ w.heap.size ∧ i ≠ w.heap.size + 1 ∧ i ≠ w.heap.size + 2) : (set3 w V d q n c b E).heap[i]? = V.heap[i]? := by
  unfold set3
  rw [Below.heap_setCell _ _ _ _ h.2.2, Below.heap_setCell _ _ _ _ h.2.1, Below.heap_setCell _ _ _ _ h.1, Below.heap_setCell _ _ _ _ h.1]
theorem GS.wr3 {w : World} {dc : Int} {intra : Bool} {q : Option Addr} {k cc : Nat} {r l : Nat → Int} {lf : Int} {V : World} (h : GS w dc intra q k cc r l lf V) (hT : Tabs w) {v : Value} {N : Nat} {F : Nat → Int} (hs : Sl .u8 w v N F) (d : Int) (q' : Option Addr) (n' c' : Nat) (b E : Int) (D lp : Nat) (hD : w.heap.size + 8 ≤ D) :
    KeepsFrom D V (set3 w V d q' n' c' b E) ∧ KpI (w.heap.size + 6) (w.heap.size + 7) (w.heap.size + 3) v N F lp V (set3 w V d q' n' c' b E) ∧ At (set3 w V d q' n' c' b E) w.heap.size #[.int .i64 d, .slice q' n' c'] 27 ∧ Boxed (set3 w V d q' n' c' b E) (w.heap.size + 1) 3 (.int .i64 b) ∧ Boxed (set3 w V d q' n' c' b E) (w.heap.size + 2) 28 (.int .i64 E) ∧ Below w.heap.size w (set3 w V d q' n' c' b E) := by
  have hz : (set3 w V d q' n' c' b E).heap.size = V.heap.size := by unfold set3; simp
  have hb : Below w.heap.size w (set3 w V d q' n' c' b E) := (((h.b.setCell (p := ⟨w.heap.size, 0, none⟩) (Nat.le_refl _) _).setCell (p := ⟨w.heap.size, 1, none⟩) (Nat.le_refl _) _).setCell (p := ⟨w.heap.size + 1, 0, none⟩) (by simp) _).setCell (p := ⟨w.heap.size + 1 + 1, 0, none⟩) (by simp; omega) _
  have g1 : V.grownBy ((V.setCell ⟨w.heap.size, 0, none⟩ (.int .i64 d)).setCell ⟨w.heap.size, 1, none⟩ (.slice q' n' c')) (some w.heap.size) := grown_set (grown_cell2 V w.heap.size 0 (.int .i64 d)) 1 (.slice q' n' c')
  have a1 := ob_set (ob_set h.r6 0 (.int .i64 d)) 1 (.slice q' n' c')
  have b1 := h.r7.kept g1 (fun e => by have := Option.some.inj e; omega)
  have c1 := h.r8.kept g1 (fun e => by have := Option.some.inj e; omega)
  have a1 : At _ w.heap.size #[.int .i64 d, .slice q' n' c'] 27 := a1
  have g2 := grown_cell2 ((V.setCell ⟨w.heap.size, 0, none⟩ (.int .i64 d)).setCell ⟨w.heap.size, 1, none⟩ (.slice q' n' c')) (w.heap.size + 1) 0 (.int .i64 b)
  have g3 := grown_cell2 (((V.setCell ⟨w.heap.size, 0, none⟩ (.int .i64 d)).setCell ⟨w.heap.size, 1, none⟩ (.slice q' n' c')).setCell ⟨w.heap.size + 1, 0, none⟩ (.int .i64 b)) (w.heap.size + 1 + 1) 0 (.int .i64 E)
  refine ⟨⟨Nat.le_of_eq hz.symm, fun i o hi ho _ => (set3_other (by omega)).trans ho⟩, ⟨Nat.le_of_eq hz.symm, fun i hi _ o ho => (set3_other (by omega)).trans ho, fun _ => hT.below hb, fun _ => hs.below hb⟩, ?_, ?_, ?_, hb⟩
  · exact (a1.kept g2 (fun e => by have := Option.some.inj e; omega)).kept g3 (fun e => by have := Option.some.inj e; omega)
  · exact (b1.set (.int .i64 b)).kept g3 (fun e => by have := Option.some.inj e; omega)
  · exact (c1.kept g2 (fun e => by have := Option.some.inj e; omega)).set (.int .i64 E)
theorem GS.left {w : World} {dc : Int} {intra : Bool} {q : Option Addr} {k cc : Nat} {r l : Nat → Int} {lf : Int} {V : World} (h : GS w dc intra q k cc r l lf V) (hT : Tabs w) {v : Value} {N : Nat} {F : Nat → Int} (hs : Sl .u8 w v N F) (lf' : Int) (D lp : Nat) (hD : w.heap.size + 8 ≤ D) :
    GS w dc intra q k cc r l lf' (V.setCell ⟨w.heap.size + 5, 0, none⟩ (.int .i64 lf')) ∧ KeepsFrom D V (V.setCell ⟨w.heap.size + 5, 0, none⟩ (.int .i64 lf')) ∧ KpI (w.heap.size + 6) (w.heap.size + 7) (w.heap.size + 3) v N F lp V (V.setCell ⟨w.heap.size + 5, 0, none⟩ (.int .i64 lf')) := by
  have hb : Below w.heap.size w (V.setCell ⟨w.heap.size + 5, 0, none⟩ (.int .i64 lf')) := h.b.setCell (p := ⟨w.heap.size + 5, 0, none⟩) (by simp) _
  have g := grown_cell2 V (w.heap.size + 5) 0 (.int .i64 lf')
  have ne : ∀ b, b ≠ w.heap.size + 5 → some b ≠ some (w.heap.size + 5) := fun b hb e => hb (Option.some.inj e)
  refine ⟨⟨h.r6.kept g (ne _ (by omega)), h.r7.kept g (ne _ (by omega)), h.r8.kept g (ne _ (by omega)), h.kd.kept g (ne _ (by omega)), h.lf.set _, OwnP.keep h.o g (by omega), hb, by simpa using h.z⟩, ⟨by simp, fun i o hi ho _ => (Below.heap_setCell _ _ _ _ (show i ≠ w.heap.size + 5 by omega)).trans ho⟩, ⟨by simp, fun i hi _ o ho => (Below.heap_setCell _ _ _ _ (show i ≠ w.heap.size + 5 by omega)).trans ho, fun _ => hT.below hb, fun _ => hs.below hb⟩⟩
theorem eight (w : World) (o0 o1 o2 o3 o4 o5 o6 o7 : Obj) {W : World} (hW : W = (((((((w.alloc o0).alloc o1).alloc o2).alloc o3).alloc o4).alloc o5).alloc o6).alloc o7) :
    W.heap.size = w.heap.size + 8 ∧ Below w.heap.size w W ∧ W.heap[w.heap.size]? = some o0 ∧ W.heap[w.heap.size + 1]? = some o1 ∧ W.heap[w.heap.size + 2]? = some o2 ∧ W.heap[w.heap.size + 3]? = some o3 ∧ W.heap[w.heap.size + 4]? = some o4 ∧ W.heap[w.heap.size + 5]? = some o5 ∧ W.heap[w.heap.size + 6]? = some o6 ∧ W.heap[w.heap.size + 7]? = some o7 := by
  subst hW
  have e : ((((((((w.alloc o0).alloc o1).alloc o2).alloc o3).alloc o4).alloc o5).alloc o6).alloc o7).heap = (((((((w.heap.push o0).push o1).push o2).push o3).push o4).push o5).push o6).push o7 := rfl
  refine ⟨by simp, ((((((((Below.refl w.heap.size w).alloc (Nat.le_refl _) _).alloc (by simp) _).alloc (by simp; omega) _).alloc (by simp; omega) _).alloc (by simp; omega) _).alloc (by simp; omega) _).alloc (by simp; omega) _).alloc (by simp; omega) _, ?_, ?_, ?_, ?_, ?_, ?_, ?_, ?_⟩ <;> (rw [e]; simp only [Array.getElem?_push, Array.size_push]; repeat (first | rw [if_pos trivial] | rw [if_pos (by omega)] | rw [if_neg (by omega)]))
theorem start_get (w : World) (va : Option Addr) (vc N : Nat) (F : Nat → Int) (p dc lf : Int) (intra first : Bool) (r l : Nat → Int) (hs : Sl .u8 w (.slice va N vc) N F) (hT : Tabs w) {W : World}
    (hW : W = (((((((w.alloc (.cells #[.int .i64 0, .slice none 0 0] 27)).alloc (.cells #[.int .i64 0] 3)).alloc (.cells #[.int .i64 0] 28)).alloc (.cells #[.slice va N vc, .int .i64 p] 60)).alloc (.cells #[.int .i64 dc, .slice none 0 0, .bool intra] 62)).alloc (.cells #[.int .i64 lf] 3)).alloc (.cells #[.pointer (some ⟨w.heap.size + 3, 0, none⟩)] 58)).alloc (.cells #[.bool first] 4)) :
    GS w dc intra none 0 0 r l lf W ∧ IT (w.heap.size + 6) (w.heap.size + 7) (w.heap.size + 3) (.slice va N vc) N F first p W ∧ W.heap.size = w.heap.size + 8 := by
  obtain ⟨hz, hb, h0, h1, h2, h3, h4, h5, h6, h7⟩ := eight w _ _ _ _ _ _ _ _ hW
  exact ⟨⟨h0, h1, h2, h4, h5, ownP_nil _ _ _ _, hb, by omega⟩, ⟨h6, h7, h3, hT.below hb, hs.below hb⟩, hz⟩
end Dk
end Go.Proofs.YtpibeocngkjolaaGreatDoor

namespace Go.Proofs.YtpibeocngkjolaaGreatDoor
open Go.RowKit Go.Shelf
attribute [local go_sem] Oper.semAt_some
set_option linter.unusedSimpArgs false
set_option linter.unusedVariables false
namespace Dk
open Cf Bk Sc
theorem GS.push {w : World} {dc : Int} {intra : Bool} {q : Option Addr} {k cc : Nat} {r l : Nat → Int} {lf : Int} {V W5 : World} {o : Obj} {v5 : Value} (h : GS w dc intra q k cc r l lf V) (hT : Tabs w) {v : Value} {N : Nat} {F : Nat → Int} (hs : Sl .u8 w v N F) (h5 : W5.ownsRow (w.heap.size + 8) 69 2 v5 (k + 1) (pcs r l (k + 1))) (hg : (V.alloc o).grownBy W5 (Value.slice q k cc).ownBlock) (D lp : Nat) :
    ∃ q' c', v5 = .slice q' (k + 1) c' ∧ Hid (GS w dc intra q' (k + 1) c' r l lf (W5.setCell ⟨w.heap.size + 4, 1, none⟩ (.slice q' (k + 1) c')) ∧ KeepsFrom D V (W5.setCell ⟨w.heap.size + 4, 1, none⟩ (.slice q' (k + 1) c')) ∧ KpI (w.heap.size + 6) (w.heap.size + 7) (w.heap.size + 3) v N F lp V (W5.setCell ⟨w.heap.size + 4, 1, none⟩ (.slice q' (k + 1) c'))) ∧ At W5 (w.heap.size + 4) #[.int .i64 dc, .slice q k cc, .bool intra] 62 := by
  have h5' : OwnP W5 (w.heap.size + 8) v5 (k + 1) r l := h5
  obtain ⟨q', c', rfl⟩ := h5'.form
  have z := h.b.size
  have zz := h.z
  have b5 : Below w.heap.size w W5 := (h.b.alloc z o).grown hg (by simp; omega) (fun q hq => Nat.le_trans (by omega) (h.o.lt q hq).1)
  have ne : ∀ b, b < w.heap.size + 8 → some b ≠ (Value.slice q k cc).ownBlock := fun b hb e => by have := (h.o.lt b e.symm).1; omega
  have ba : Below V.heap.size V (V.alloc o) := (Below.refl _ _).alloc (Nat.le_refl _) o
  have x6 := (h.r6.below ba).kept hg (ne _ (by omega))
  have x7 := (h.r7.kept (grown_of_below ba none) (by simp)).kept hg (ne _ (by omega))
  have x8 := (h.r8.kept (grown_of_below ba none) (by simp)).kept hg (ne _ (by omega))
  have x4 := (h.kd.below ba).kept hg (ne _ (by omega))
  have x5 := (h.lf.kept (grown_of_below ba none) (by simp)).kept hg (ne _ (by omega))
  have g2 := grown_cell2 W5 (w.heap.size + 4) 1 (.slice q' (k + 1) c')
  have nn : ∀ b, b ≠ w.heap.size + 4 → some b ≠ some (w.heap.size + 4) := fun b hb e => hb (Option.some.inj e)
  have bb : Below w.heap.size w (W5.setCell ⟨w.heap.size + 4, 1, none⟩ (.slice q' (k + 1) c')) := b5.setCell (p := ⟨w.heap.size + 4, 1, none⟩) (by simp) _
  have sz : V.heap.size ≤ W5.heap.size := Nat.le_trans ba.size hg.size
  have same : ∀ (i : Nat) (ob : Obj), V.heap[i]? = some ob → i ≠ w.heap.size + 4 → some i ≠ (Value.slice q k cc).ownBlock → (W5.setCell ⟨w.heap.size + 4, 1, none⟩ (.slice q' (k + 1) c')).heap[i]? = some ob := fun i ob ho h1 h2 => by
    have hi := (Array.getElem?_eq_some_iff.1 ho).1
    exact (Below.heap_setCell _ _ _ _ h1).trans ((hg.block i (Nat.lt_of_lt_of_le hi ba.size) h2).trans ((ba.block i hi).trans ho))
  refine ⟨q', c', rfl, Lib.hid ⟨⟨x6.kept g2 (nn _ (by omega)), x7.kept g2 (nn _ (by omega)), x8.kept g2 (nn _ (by omega)), ob_set x4 1 (.slice q' (k + 1) c'), x5.kept g2 (nn _ (by omega)), OwnP.keep h5' g2 (by omega), bb, by simp; omega⟩, ⟨by simpa using sz, fun i ob hi ho hc => ?_⟩, ⟨by simpa using sz, fun i hi _ ob ho => same i ob ho (by omega) (ne i (by omega)), fun _ => hT.below bb, fun _ => hs.below bb⟩⟩, x4⟩
  by_cases hi4 : i = w.heap.size + 4
  · exfalso
    have e : V.heap[i]? = some (.cells #[.int .i64 dc, .slice q k cc, .bool intra] 62 (0, 0)) := by rw [hi4]; exact h.kd
    rw [e] at ho
    have := Option.some.inj ho
    subst this
    cases hc
  · refine same i ob ho hi4 (fun e => ?_)
    rcases h.o.2 with ⟨h1, _⟩ | ⟨g, cap, cur, h1, _, hgg, _⟩
    · rw [h1] at e; simp [Value.ownBlock] at e
    · rw [h1] at e
      have e2 : i = g := Option.some.inj e
      subst e2
      rw [hgg] at ho
      have := Option.some.inj ho
      subst this
      cases hc
theorem set3_own {w : World} {dc : Int} {intra : Bool} {q : Option Addr} {k cc : Nat} {r l : Nat → Int} {lf : Int} {V : World} (h : GS w dc intra q k cc r l lf V) (d : Int) (q' : Option Addr) (n' c' : Nat) (b E : Int) : OwnP (set3 w V d q' n' c' b E) (w.heap.size + 8) (.slice q k cc) k r l := by
  unfold set3
  exact OwnP.keep (OwnP.keep (OwnP.keep h.o (grown_set (grown_cell2 V w.heap.size 0 (.int .i64 d)) 1 (.slice q' n' c')) (by omega)) (grown_cell2 _ (w.heap.size + 1) 0 (.int .i64 b)) (by omega)) (grown_cell2 _ (w.heap.size + 1 + 1) 0 (.int .i64 E)) (by omega)
/-- block.Get's three results, read. -/
theorem results_get3 {fn : Func} {p s t : Tmp} (hr : fn.results = #[.cell p 27, .cell s 3, .cell t 28]) (tmps : Array Value) {B : Nat} {V : World} {dc b E : Int} {q : Option Addr} {n c : Nat}
    (hp : tmps.getD p undef = .pointer (some ⟨B, 0, none⟩)) (hs : tmps.getD s undef = .pointer (some ⟨B + 1, 0, none⟩)) (ht : tmps.getD t undef = .pointer (some ⟨B + 1 + 1, 0, none⟩)) (h : At V B #[.int .i64 dc, .slice q n c] 27) (h1 : Boxed V (B + 1) 3 (.int .i64 b)) (h2 : Boxed V (B + 2) 28 (.int .i64 E)) :
    (results fn tmps).run Tryz.prog V = .ok (.tuple #[bv dc q n c, .int .i64 b, .int .i64 E]) V := by
  have c0 := h.cell 0 _ rfl
  have c1 := h.cell 1 _ rfl
  have c2 := h1.cell
  have c3 : V.cell? ⟨B + 1 + 1, 0, none⟩ = some (.int .i64 E) := h2.cell
  have hp' : tmps[p]?.getD undef = .pointer (some ⟨B, 0, none⟩) := by simpa using hp
  have hs' : tmps[s]?.getD undef = .pointer (some ⟨B + 1, 0, none⟩) := by simpa using hs
  have ht' : tmps[t]?.getD undef = .pointer (some ⟨B + 1 + 1, 0, none⟩) := by simpa using ht
  simp at c0 c1 c2 c3
  simp [results, hr, hp', hs', ht', asAddr, loadVar, go_sem, c0, c1, c2, c3, Tryz.underlying27, Tryz.underlying25, Tryz.underlying3, Tryz.underlying28]
end Dk
end Go.Proofs.YtpibeocngkjolaaGreatDoor

namespace Go.Proofs.YtpibeocngkjolaaGreatDoor
open Go.RowKit Go.Shelf
attribute [local go_sem] Oper.semAt_some
set_option linter.unusedSimpArgs false
set_option linter.unusedVariables false
namespace Dk
open Cf Bk Sc
section
set_option maxRecDepth 100000
set_option maxHeartbeats 16000000
theorem Get12_inter (va : Option Addr) (vc N : Nat) (F : Nat → Int) (p : Int) (w : World) (hN : N ≤ 1000000) (hs : Sl .u8 w (.slice va N vc) N F) (hb : ∀ j, j < N → 0 ≤ F j ∧ F j ≤ 255) (hT : Tabs w) (hp0 : 0 ≤ p) (hp8 : p ≤ 8 * (N : Int)) :
    Calls Tryz.prog 12 #[.slice va N vc, .int .i64 p, .bool false] w (GotB F N p false w) := by
  obtain ⟨i0, hi, hz0, hz1, hz2⟩ := info_parts info_pair
  have HS := Lib.hid hs
  have HBY := Lib.hid hb
  have HT := Lib.hid hT
  have HC := Lib.hid (fun V => Count_any va N vc V hN)
  have hp1 : ¬ p < 0 := by omega
  have hp2 : ¬ 8 * (N : Int) < p := by omega
  have HHP : Hid (HHp F N p false) := Lib.hid (.inl (by unfold hE; rw [if_neg hp1, if_neg hp2, if_pos rfl]))
  clear hs hb hT
  refine (callsIn_wide (n := 12)).1 ?_
  refine callsIn_of_wp_marks Tryz.func12 rfl trivial ?_ rfl
  simp only [Tryz.ntmps12, List.size_toArray, List.length_cons, List.length_nil, Nat.reduceAdd, Nat.reduceSub, Array.replicate_succ, Array.replicate_zero, List.push_toArray, List.append_toArray, List.nil_append, List.cons_append]
  gi_wp2_with (first
    | (refine ⟨trivial, ?_⟩; gi_at_call 35; refine (callsIn_wide.2 (HC.out _)).mono ?_; rintro e w' ⟨rfl, rfl⟩)
    | (refine ⟨trivial, ?_⟩; gi_at_call 37; refine (callsIn_wide.2 (cpairs_any _ true _)).mono ?_; rintro e w' ⟨rfl, rfl⟩))
  generalize hW0 : ((((((((w.alloc _).alloc _).alloc _).alloc _).alloc _).alloc _).alloc _).alloc _) = W0
  obtain ⟨G0, T0, z0⟩ := start_get w va vc N F p 0 64 false true (fun j => (gg F N true (hP p false) j).r) (fun j => (gg F N true (hP p false) j).l) HS.out HT.out hW0.symm
  clear hW0
  have lc := T0.c.lt
  refine rangeC (gf := 62) (lb := #[.pointer (some ⟨w.heap.size + 6, 0, none⟩), .pointer (some ⟨w.heap.size + 7, 0, none⟩)]) rfl (enters_of Tryz.func62 (by kernel_rfl) rfl)
    (pairs_seq va vc N F true p hN HBY.out hp0 hp8 11 (by decide) (w.heap.size + 6) (w.heap.size + 7) (w.heap.size + 3) (by omega) (by omega) (by omega) W0 T0) ?ends (by omega) (by omega) kpI_t kpI_l (fun _ => rfl)
    (fun k V => (∀ j, j < k → okG F N true (hP p false) j) ∧ ∃ q cc, GS w 0 false q k cc (fun j => (gg F N true (hP p false) j).r) (fun j => (gg F N true (hP p false) j).l) (64 - pl F N true (hP p false) k) V)
    (fun c k V => c = .ret ∧ ∃ E, GB F N p false E 0 0 0 ∧ At V w.heap.size #[.int .i64 0, .slice none 0 0] 27 ∧ Boxed V (w.heap.size + 1) 3 (.int .i64 0) ∧ Boxed V (w.heap.size + 2) 28 (.int .i64 E) ∧ Below w.heap.size w V)
    ?own ?ownx ?keep ⟨fun j hj => by omega, none, 0, G0⟩
    (fun k a' V => ∃ PB, w.heap.size + 8 ≤ PB ∧ V.heap[PB]? = some (.cells #[.int .i64 (gg F N true p k).r, .int .i64 (gg F N true p k).l] 69 (0, 0)) ∧ a' = { tmps := #[Value.slice va N vc, Value.int IntKind.i64 p, Value.bool false, undef, undef, undef, Value.pointer (some { block := w.heap.size, off := 0 }), Value.pointer (some { block := w.heap.size + 1, off := 0 }), Value.pointer (some { block := w.heap.size + 1 + 1, off := 0 }), Value.pointer (some { block := w.heap.size + 1 + 1 + 1, off := 0 }), Value.pointer (some { block := w.heap.size + 1 + 1 + 1 + 1, off := 0 }), Value.pointer (some { block := w.heap.size + 1 + 1 + 1 + 1 + 1, off := 0 }), undef, undef, Value.pointer (some { block := PB, off := 0 }), Value.int IntKind.i64 (gg F N true p k).e, Value.bool false, Value.int IntKind.i64 p, Value.bool false, undef, Value.bool (decide (8 * (N : Int) < p)), Value.int IntKind.i64 p, Value.slice va N vc, Value.int IntKind.i64 (8 * (N : Int)), Value.bool (decide (8 * (N : Int) < p)), undef, Value.slice va N vc, Value.int IntKind.i64 p, Value.agg #[Value.slice va N vc, Value.int IntKind.i64 p], Value.pointer (some { block := w.heap.size + 1 + 1 + 1, off := 0 }), Value.bool false, Value.agg #[Value.int IntKind.i64 0, Value.slice none 0 0, Value.bool false], Value.bool false, undef, undef, undef, undef, undef, undef, undef, undef, undef, undef, undef, undef, undef, undef, undef, undef, undef, undef, undef, undef, undef, undef, undef, undef, undef, undef, undef, undef, undef, Value.pointer (some { block := w.heap.size + 1 + 1 + 1, off := 0 }), Value.bool false, Value.bool true, Value.func (Fn.func 62) #[] #[Value.pointer (some { block := w.heap.size + 1 + 1 + 1 + 1 + 1 + 1, off := 0 }), Value.pointer (some { block := w.heap.size + 1 + 1 + 1 + 1 + 1 + 1 + 1, off := 0 })], Value.agg #[Value.int IntKind.i64 (gg F N true p k).r, Value.int IntKind.i64 (gg F N true p k).l], Value.int IntKind.i64 (gg F N true p k).e, undef, undef, undef, undef, undef, undef, undef, undef, undef, undef, undef, undef, undef, undef, undef, undef, undef, undef, undef, undef, undef, undef, undef, undef, undef, undef, undef, undef], defers := [] })
    (fun k a' => fun s A C row ⟨PB, h0, h1, h2⟩ hg hr => ⟨PB, h0, Own.from (obj_own (β := Unit) PB (.cells #[.int .i64 (gg F N true p k).r, .int .i64 (gg F N true p k).l] 69 (0, 0)) rfl) _ () A C row h1 hg hr, h2⟩)
    ?assign ?body ?done ?stop
  case ends => exact fun k A C row h hg hr => h.imp (fun ⟨a, b, c⟩ => ⟨a, b, c.kept hg (fun e => by have := (hr _ e.symm).1; omega)⟩) id
  case own => exact fun k A C row ⟨h1, q, cc, h2⟩ hg hr => ⟨h1, q, cc, h2.own hg (fun x e => by have := hr x e; exact ⟨by omega, this.2⟩)⟩
  case ownx => exact fun c k A C row ⟨h1, E, h2, h3, h4, h5, h6⟩ hg hr => ⟨h1, E, h2, h3.kept hg (fun e => by have := (hr _ e.symm).1; omega), h4.kept hg (fun e => by have := (hr _ e.symm).1; omega), h5.kept hg (fun e => by have := (hr _ e.symm).1; omega), h6.grown hg h6.size (fun g e => by have := (hr g e).1; omega)⟩
  case keep => exact fun b hb k A C ⟨h1, q, cc, h2⟩ hg => ⟨h1, q, cc, h2.keep hb hg⟩
  case assign =>
    rintro l x V K sV hl hx ⟨h1, q, cc, h2⟩ hK
    dsimp only [encP]
    gi_wp2
    have hb : Below V.heap.size V (V.alloc (.cells #[.int .i64 (gg F N true p x).r, .int .i64 (gg F N true p x).l] 69)) := (Below.refl _ V).alloc (Nat.le_refl _) _
    exact hK _ _ ((KeepsOthers.alloc _ _).from _) (kpI_below hb) ⟨h1, q, cc, h2.below hb⟩ ⟨V.heap.size, h2.z, heap_alloc_new V _, rfl⟩
  case body =>
    rintro lp x a' V hlp ⟨r2, hr2⟩ ⟨hok, q, cc, h0⟩ ⟨PB, hPB, hq, rfl⟩ hlt hen
    have hgc := gg_cases (F := F) (N := N) (fi := true) (p0 := p) x
    have HERR := Lib.hid (fun E => gb_err (E := E) (p := p) (intra := false) (fi := true) (k := x) HHP.out rfl hok)
    have HRUN : Hid ((gg F N true p x).e = 0 → (gg F N true p x).en = false → 63 < pl F N true (hP p false) x + (gg F N true p x).r → GB F N p false 11 0 0 0) := Lib.hid (gb_run (p := p) (intra := false) (fi := true) (k := x) HHP.out rfl hok)
    have HW3 := Lib.hid (fun d q' n' c' b E => h0.wr3 HT.out HS.out d q' n' c' b E W0.heap.size lp (by omega))
    have q0 := cell_row hq (i := 0) rfl
    have q1 := cell_row hq (i := 1) rfl
    have f0 := frozen_of_row h0.r6 0
    have f1 := frozen_of_row h0.r6 1
    have d0 := h0.r6.cell 0 _ rfl
    have d1 := h0.r6.cell 1 _ rfl
    have f7 := h0.r7.frozen
    have d7 := h0.r7.cell
    have f8 := h0.r8.frozen
    have d8 := h0.r8.cell
    have H0 := Lib.hid h0
    have HOK := Lib.hid hok
    change (∃ e, gg F N true p x = gErr e ∧ _) ∨ _ at hgc
    change Hid (∀ E, (gg F N true p x).e = E → _) at HERR
    change (gg F N true p x).en = false at hen
    generalize hgv : gg F N true p x = gv at *
    have HGV := Lib.hid hgv
    clear hgv h0 hok hr2 hq
    obtain ⟨gr, gl, gen, gn, ge⟩ := gv
    dsimp only at *
    rcases hgc with ⟨e5, he5, hee⟩ | ⟨he0, _, hGok⟩
    · have hne : (ge != 0) = true := by
        have : ge = e5 := congrArg G5.e he5
        simp; omega
      have hne2 : ge ≠ 0 := by simpa using hne
      have HBAD := Lib.hid (HERR.out ge rfl hne2)
      have G := Lib.hid (HW3.out 0 none 0 0 0 ge)
      clear he5 hee hne2 HERR HRUN HW3 G0 T0
      unfold set3 at G
      gi_wp2
      exact ⟨G.out.1, G.out.2.1, rfl, ge, HBAD.out, G.out.2.2.1, G.out.2.2.2.1, G.out.2.2.2.2.1, G.out.2.2.2.2.2⟩
    · obtain ⟨hn2, hn20, hfit, hr0, hr63, hpr, hfi⟩ := hGok
      dsimp only at hn2 hn20 hfit hr0 hr63 hpr hfi hen
      subst he0
      subst hen
      have hpl := pl_bd x HOK.out
      have HPL : Hid (pl F N true (hP p false) x = pl F N true (hP p false) x) := Lib.hid rfl
      have HRUN2 := Lib.hid (fun h => HRUN.out rfl rfl h)
      obtain ⟨PL, hPL⟩ : ∃ y, pl F N true (hP p false) x = y := ⟨_, rfl⟩
      rw [hPL] at H0 hpl HRUN2
      have HPE := Lib.hid hPL
      have e1 : wrap64 (gr + 1) = gr + 1 := w64 (by omega)
      obtain ⟨LF, hLF⟩ : ∃ y, 64 - PL = y := ⟨_, rfl⟩
      obtain ⟨LG, hLG⟩ : ∃ y, 64 - PL - (gr + 1) = y := ⟨_, rfl⟩
      have GL := Lib.hid (H0.out.left HT.out HS.out LG W0.heap.size lp (by omega))
      rw [hLF] at H0 hLG
      have e2 : wrap64 (LF - (gr + 1)) = LG := by rw [w64 (by omega)]; exact hLG
      have l0 := H0.out.lf.cell
      have l1 := H0.out.lf.frozen
      clear hpr hfi hPL HERR HRUN HW3 G0 T0
      have HIN := Lib.hid (fun q2 c2 W2 (h : GS w 0 false q2 (x + 1) c2 (fun j => (gg F N true (hP p false) j).r) (fun j => (gg F N true (hP p false) j).l) LG W2) (hge : ¬ LG < 0) => show (∀ j, j < x + 1 → okG F N true (hP p false) j) ∧ ∃ q cc, GS w 0 false q (x + 1) cc (fun j => (gg F N true (hP p false) j).r) (fun j => (gg F N true (hP p false) j).l) (64 - pl F N true (hP p false) (x + 1)) W2 from by
        have hgv2 : gg F N true (hP p false) x = ⟨gr, gl, false, gn, 0⟩ := HGV.out
        refine ⟨fun j hj => ?_, q2, c2, ?_⟩
        · by_cases hjx : j = x
          · subst hjx
            refine ⟨by rw [hgv2], by rw [hgv2], ?_⟩
            have e5 : pl F N true (hP p false) j = PL := HPE.out
            rw [e5, hgv2]
            show PL + gr ≤ 63
            omega
          · exact HOK.out j (by omega)
        · have e5 : pl F N true (hP p false) x = PL := HPE.out
          have e6 : 64 - pl F N true (hP p false) (x + 1) = LG := by
            rw [pl_succ, e5, hgv2]
            show 64 - (PL + gr + 1) = LG
            omega
          rw [e6]
          exact h)
      have g5 := grown_cell2 V (w.heap.size + 5) 0 (.int .i64 LG)
      have y0 := grown_cell g5 (fun e => by have := Option.some.inj e; omega) q0
      have y1 := grown_cell g5 (fun e => by have := Option.some.inj e; omega) q1
      have kd1 := GL.out.1.kd.cell 1 _ rfl
      have l2 := GL.out.1.lf.cell
      have z5 := GL.out.1.z
      have hz8 : w.heap.size + 8 ≤ W0.heap.size := by omega
      clear g5 hlp z0 d0 d1 f0 f1 d7 f7 d8 f8 HHP HBY
      gi_upto_region 21 with fail
      generalize V.setCell ⟨w.heap.size + 5, 0, none⟩ (.int .i64 LG) = V1 at *
      clear l0 l1 q0 q1 e1 e2
      by_cases hrun : LG < 0
      · have HBAD := Lib.hid (HRUN2.out (by omega))
        have f0 := frozen_of_row GL.out.1.r6 0
        have f1 := frozen_of_row GL.out.1.r6 1
        have d0 := GL.out.1.r6.cell 0 _ rfl
        have d1 := GL.out.1.r6.cell 1 _ rfl
        have f7 := GL.out.1.r7.frozen
        have d7 := GL.out.1.r7.cell
        have f8 := GL.out.1.r8.frozen
        have d8 := GL.out.1.r8.cell
        have G := Lib.hid (GL.out.1.wr3 HT.out HS.out 0 none 0 0 0 11 W0.heap.size lp hz8)
        unfold set3 at G
        clear hpl HRUN2 y0 y1 kd1 HIN
        gi_wp2
        have k1 := GL.out.2
        exact ⟨⟨Nat.le_trans k1.1.1 G.out.1.1, fun i o hi ho hc => G.out.1.2 i o hi (k1.1.2 i o hi ho hc) hc⟩, kpI_t k1.2 G.out.2.1, rfl, 11, HBAD.out, G.out.2.2.1, G.out.2.2.2.1, G.out.2.2.2.2.1, G.out.2.2.2.2.2⟩
      · have hx64 : x ≤ 64 := ok_le HOK.out
        have HPC := Lib.hid (pcs_next (fun j => (gg F N true (hP p false) j).r) (fun j => (gg F N true (hP p false) j).l) x)
        have HPG : Hid ((gg F N true (hP p false) x).r = gr ∧ (gg F N true (hP p false) x).l = gl) := Lib.hid (by
          have hgv2 : gg F N true (hP p false) x = ⟨gr, gl, false, gn, 0⟩ := HGV.out
          rw [hgv2]
          exact ⟨rfl, rfl⟩)
        have HPC2 := Lib.hid (show pcs (fun j => (gg F N true (hP p false) j).r) (fun j => (gg F N true (hP p false) j).l) (x + 1) = pcs (fun j => (gg F N true (hP p false) j).r) (fun j => (gg F N true (hP p false) j).l) x ++ [.int .i64 gr, .int .i64 gl] from by rw [HPC.out]; simp only [HPG.out.1, HPG.out.2])
        have bz := GL.out.1.b.size
        clear hpl HRUN2 HPC HPG
        gi_wp2_with (gi_at_builtin; refine wpListIn_append_own _ rfl (.tmp 82) (.tmp 84) 25 rfl (w.heap.size + 8) 69 i0 (.agg #[.int .i64 0, .int .i64 0]) 2 16 Tryz.underlying25 hi hz0 hz1 hz2 rfl (by decide) _ _ _ rfl (GL.out.1.o.alloc _) ⟨_, 0, none⟩ 1 1 [.int .i64 gr, .int .i64 gl] rfl rfl (World.news_of_block (cs := #[.int .i64 gr, .int .i64 gl]) (t := 69) (fr := (0, 0)) (heap_alloc_new _ _)) (by simp [Value.oneCell']) (by unfold maxLen; omega) (by omega) (by simp at *; omega) ?_; intro v5 w5 own5 gr5 _; rw [← HPC2.out] at own5; have HX := GL.out.1.push HT.out HS.out own5 gr5 W0.heap.size lp; clear own5 gr5; obtain ⟨q', c', rfl, HR5, hx5⟩ := HX; have f1 := frozen_of_row hx5 1; have c5 := hx5.cell 1 _ rfl; clear hx5)
        have k1 := GL.out.2
        have k2 := HR5.out.2
        exact ⟨⟨Nat.le_trans k1.1.1 k2.1.1, fun i o hi ho hc => k2.1.2 i o hi (k1.1.2 i o hi ho hc) hc⟩, kpI_t k1.2 k2.2, HIN.out q' c' _ HR5.out.1 hrun⟩
  case stop =>
    rintro Dd c pre V hD ⟨rfl, E, hGB, h3, h4, h5, h6⟩ hK
    have hc : w.heap.size + 8 ≤ Dd := by omega
    clear G0 T0 HC HHP HBY
    gi_wp2
    refine ⟨by simp, .inl ⟨_, _, rfl, run_takeDeferred hK, ?_⟩⟩
    have hg := grownBy_putObj' V Dd (.deferred none)
    have ne : ∀ b, b < w.heap.size + 8 → some b ≠ some Dd := fun b hb e => by have := Option.some.inj e; omega
    exact ⟨_, results_get3 rfl _ rfl rfl rfl (h3.kept hg (ne _ (by omega))) (h4.kept hg (ne _ (by omega))) (h5.kept hg (ne _ (by omega))), GotB.err hGB (h6.grown hg h6.size (fun g e => by have := Option.some.inj e; omega))⟩
  case done =>
    rintro Dd k V hDd hS ⟨hok, q, cc, h0⟩ hK
    have hc : w.heap.size + 8 ≤ Dd := by omega
    rcases hS with ⟨hge, hgen, hcur⟩ | ⟨j, hj, hge⟩
    rotate_left
    · exact absurd (hok j (by omega)).1 hge
    have HFIN := Lib.hid (gb_end (p := p) (intra := false) (fi := true) (k := k) HHP.out rfl hok hge hgen)
    have hgc := gg_cases (F := F) (N := N) (fi := true) (p0 := p) k
    obtain ⟨G, hG⟩ : ∃ G, gp F N true (hP p false) (k + 1) = G := ⟨_, rfl⟩
    have hG1 : 0 ≤ G ∧ G ≤ 8 * (N : Int) := by
      rcases hgc with ⟨e, h1, h2⟩ | ⟨_, h1, h2⟩
      · rw [h1] at hgen; cases hgen
      · have := h2.fit
        have := h2.n2
        have e : gp F N true p (k + 1) = gp F N true p k + (gg F N true p k).n := rfl
        have e2 : gp F N true p (k + 1) = G := hG
        omega
    rw [hG] at HFIN
    have hcur2 : At V (w.heap.size + 3) #[.slice va N vc, .int .i64 G] 60 := by rw [← hG]; exact hcur
    have ew : wrap64 (G - p) = G - p := w64 (by omega)
    have HW := Lib.hid (h0.wr3 HT.out HS.out (hD F p false) q k cc (G - p) 0 W0.heap.size (W0.heap.size + 1) (by omega))
    have eD : hD F p false = 0 := rfl
    rw [eD] at HFIN HW
    unfold set3 at HW
    have c0 := hcur2.cell 0 _ rfl
    have c1 := hcur2.cell 1 _ rfl
    have f0 := frozen_of_row h0.r6 0
    have f1 := frozen_of_row h0.r6 1
    have d0 := h0.r6.cell 0 _ rfl
    have d1 := h0.r6.cell 1 _ rfl
    have f7 := h0.r7.frozen
    have d7 := h0.r7.cell
    have f8 := h0.r8.frozen
    have d8 := h0.r8.cell
    have e0 := h0.kd.cell 0 _ rfl
    have e1 := h0.kd.cell 1 _ rfl
    have H0 := Lib.hid h0
    have HK := Lib.hid hK
    have HCC := Lib.hid hc
    clear hok h0 hK hcur hcur2 hge hgen hgc hG eD G0 T0 HC HHP HBY hc
    gi_wp2
    refine wpIn_wide.2 ?_
    go_region
    have hK2 := HW.out.1.2 Dd _ hDd HK.out rfl
    have HO := Lib.hid (set3_own H0.out 0 q k cc (G - p) 0)
    unfold set3 at HO
    obtain ⟨_, _, a1, a2, a3, a4⟩ := HW.out
    generalize (((V.setCell ⟨w.heap.size, 0, none⟩ (.int .i64 0)).setCell ⟨w.heap.size, 1, none⟩ (.slice q k cc)).setCell ⟨w.heap.size + 1, 0, none⟩ (.int .i64 (G - p))).setCell ⟨w.heap.size + 1 + 1, 0, none⟩ (.int .i64 0) = V2 at *
    obtain ⟨V3, hV3⟩ : ∃ y, V2.drew = y := ⟨_, rfl⟩
    have hK3 : V3.heap[Dd]? = some (.deferred (some [])) := by rw [← hV3]; exact hK2
    have b1 : At V3 w.heap.size #[.int .i64 0, .slice q k cc] 27 := by rw [← hV3]; exact a1
    have b2 : Boxed V3 (w.heap.size + 1) 3 (.int .i64 (G - p)) := by rw [← hV3]; exact a2
    have b3 : Boxed V3 (w.heap.size + 2) 28 (.int .i64 0) := by rw [← hV3]; exact a3
    have b4 : Below w.heap.size w V3 := by rw [← hV3]; exact a4.drew
    have b5 : OwnP V3 (w.heap.size + 8) (.slice q k cc) k (fun j => (gg F N true (hP p false) j).r) (fun j => (gg F N true (hP p false) j).l) := by rw [← hV3]; exact HO.out
    have B := Lib.hid (And.intro b1 (And.intro b2 (And.intro b3 (And.intro b4 b5))))
    rw [hV3]
    clear a1 a2 a3 a4 hK2 b1 b2 b3 b4 b5 hV3 HO
    gi_wp2
    refine ⟨by simp, .inl ⟨_, _, rfl, run_takeDeferred hK3, ?_⟩⟩
    have hg := grownBy_putObj' V3 Dd (.deferred none)
    have ne : ∀ b, b < w.heap.size + 8 → some b ≠ some Dd := fun b hb e => by have := Option.some.inj e; have := HCC.out; omega
    obtain ⟨b1, b2, b3, b4, b5⟩ := B.out
    refine ⟨_, results_get3 rfl _ rfl rfl rfl (b1.kept hg (ne _ (by omega))) (b2.kept hg (ne _ (by omega))) (b3.kept hg (ne _ (by omega))), 0, 0, G - p, k, q, cc, HFIN.out, rfl, ?_, b4.grown hg b4.size (fun g e => by have := Option.some.inj e; have := HCC.out; omega)⟩
    exact own_mono (B := w.heap.size + 8) (ownP_own (B := w.heap.size + 8) (w.heap.size + 8) _ k _ _ () _ _ (some Dd) b5 hg (fun x e => by obtain rfl := Option.some.inj e; exact ⟨HCC.out, _, hK3, rfl⟩)) (by omega)
end
end Dk
end Go.Proofs.YtpibeocngkjolaaGreatDoor

namespace Go.Proofs.YtpibeocngkjolaaGreatDoor
open Go.RowKit Go.Shelf
attribute [local go_sem] Oper.semAt_some
set_option linter.unusedSimpArgs false
set_option linter.unusedVariables false
namespace Dk
open Cf Bk Sc
/-- the three results' cells. -/
structure R3 (w V : World) : Prop where
  r6 : At V w.heap.size #[.int .i64 0, .slice none 0 0] 27
  r7 : Boxed V (w.heap.size + 1) 3 (.int .i64 0)
  r8 : Boxed V (w.heap.size + 2) 28 (.int .i64 0)
  b : Below w.heap.size w V
theorem R3.new (w : World) : R3 w (((w.alloc (.cells #[.int .i64 0, .slice none 0 0] 27)).alloc (.cells #[.int .i64 0] 3)).alloc (.cells #[.int .i64 0] 28)) := by
  have h1 := At.new w #[.int .i64 0, .slice none 0 0] 27
  have h2 := At.new (w.alloc (.cells #[.int .i64 0, .slice none 0 0] 27)) #[.int .i64 0] 3
  have h3 := At.new ((w.alloc (.cells #[.int .i64 0, .slice none 0 0] 27)).alloc (.cells #[.int .i64 0] 3)) #[.int .i64 0] 28
  rw [World.size_alloc] at h2
  rw [World.size_alloc, World.size_alloc] at h3
  have b2 := (Below.refl (w.alloc (.cells #[.int .i64 0, .slice none 0 0] 27)).heap.size _).alloc (Nat.le_refl _) (.cells #[.int .i64 0] 3)
  have b3 := (Below.refl ((w.alloc (.cells #[.int .i64 0, .slice none 0 0] 27)).alloc (.cells #[.int .i64 0] 3)).heap.size _).alloc (Nat.le_refl _) (.cells #[.int .i64 0] 28)
  exact ⟨(h1.below b2).below b3, h2.below b3, h3, (((Below.refl w.heap.size w).alloc (Nat.le_refl _) _).alloc (by simp) _).alloc (by simp; omega) _⟩
theorem R3.below {w V V' : World} (h : R3 w V) (hb : Below V.heap.size V V') : R3 w V' :=
  ⟨h.r6.below hb, h.r7.kept (grown_of_below hb none) (by simp), h.r8.kept (grown_of_below hb none) (by simp), chain h.b hb⟩
theorem R3.facts {w V : World} (h : R3 w V) : V.frozen? ⟨w.heap.size, 0, none⟩ = false ∧ V.frozen? ⟨w.heap.size, 1, none⟩ = false ∧ V.frozen? ⟨w.heap.size + 1, 0, none⟩ = false ∧ V.frozen? ⟨w.heap.size + 2, 0, none⟩ = false ∧ V.cell? ⟨w.heap.size, 0, none⟩ = some (.int .i64 0) ∧ V.cell? ⟨w.heap.size, 1, none⟩ = some (.slice none 0 0) ∧ V.cell? ⟨w.heap.size + 1, 0, none⟩ = some (.int .i64 0) ∧ V.cell? ⟨w.heap.size + 2, 0, none⟩ = some (.int .i64 0) :=
  ⟨frozen_of_row h.r6 0, frozen_of_row h.r6 1, h.r7.frozen, h.r8.frozen, h.r6.cell 0 _ rfl, h.r6.cell 1 _ rfl, h.r7.cell, h.r8.cell⟩
theorem R3.set {w V : World} (h : R3 w V) (d : Int) (q' : Option Addr) (n' c' : Nat) (b E : Int) :
    At (set3 w V d q' n' c' b E) w.heap.size #[.int .i64 d, .slice q' n' c'] 27 ∧ Boxed (set3 w V d q' n' c' b E) (w.heap.size + 1) 3 (.int .i64 b) ∧ Boxed (set3 w V d q' n' c' b E) (w.heap.size + 2) 28 (.int .i64 E) ∧ Below w.heap.size w (set3 w V d q' n' c' b E) := by
  have hb : Below w.heap.size w (set3 w V d q' n' c' b E) := (((h.b.setCell (p := ⟨w.heap.size, 0, none⟩) (Nat.le_refl _) _).setCell (p := ⟨w.heap.size, 1, none⟩) (Nat.le_refl _) _).setCell (p := ⟨w.heap.size + 1, 0, none⟩) (by simp) _).setCell (p := ⟨w.heap.size + 1 + 1, 0, none⟩) (by simp; omega) _
  have g1 : V.grownBy ((V.setCell ⟨w.heap.size, 0, none⟩ (.int .i64 d)).setCell ⟨w.heap.size, 1, none⟩ (.slice q' n' c')) (some w.heap.size) := grown_set (grown_cell2 V w.heap.size 0 (.int .i64 d)) 1 (.slice q' n' c')
  have a1 := ob_set (ob_set h.r6 0 (.int .i64 d)) 1 (.slice q' n' c')
  have b1 := h.r7.kept g1 (fun e => by have := Option.some.inj e; omega)
  have c1 := h.r8.kept g1 (fun e => by have := Option.some.inj e; omega)
  have a1 : At _ w.heap.size #[.int .i64 d, .slice q' n' c'] 27 := a1
  have g2 := grown_cell2 ((V.setCell ⟨w.heap.size, 0, none⟩ (.int .i64 d)).setCell ⟨w.heap.size, 1, none⟩ (.slice q' n' c')) (w.heap.size + 1) 0 (.int .i64 b)
  have g3 := grown_cell2 (((V.setCell ⟨w.heap.size, 0, none⟩ (.int .i64 d)).setCell ⟨w.heap.size, 1, none⟩ (.slice q' n' c')).setCell ⟨w.heap.size + 1, 0, none⟩ (.int .i64 b)) (w.heap.size + 1 + 1) 0 (.int .i64 E)
  exact ⟨(a1.kept g2 (fun e => by have := Option.some.inj e; omega)).kept g3 (fun e => by have := Option.some.inj e; omega), (b1.set (.int .i64 b)).kept g3 (fun e => by have := Option.some.inj e; omega), (c1.kept g2 (fun e => by have := Option.some.inj e; omega)).set (.int .i64 E), hb⟩
section
set_option maxRecDepth 100000
set_option maxHeartbeats 16000000
theorem Get12_low (v : Value) (N : Nat) (F : Nat → Int) (p : Int) (intra : Bool) (w : World) (hp : p < 0) :
    Calls Tryz.prog 12 #[v, .int .i64 p, .bool intra] w (GotB F N p intra w) := by
  have hG : GB F N p intra 3 0 0 0 := .inl ⟨by unfold hE; rw [if_pos hp]; decide, by unfold hE; rw [if_pos hp], rfl, rfl, rfl⟩
  have HG := Lib.hid hG
  have HR := Lib.hid (R3.new w)
  clear hG
  go_enter Tryz.func12, Tryz.ntmps12
  go_upto_region 1 with fail
  generalize ((w.alloc _).alloc _).alloc _ = V at *
  obtain ⟨f0, f1, f2, f3, d0, d1, d2, d3⟩ := HR.out.facts
  have G := Lib.hid (HR.out.set 0 none 0 0 0 3)
  unfold set3 at G
  go_wp2_with fail
  obtain ⟨a1, a2, a3, a4⟩ := G.out
  refine bodyPost_ret (results_get3 rfl _ rfl rfl rfl a1 a2 a3) rfl ?_
  exact GotB.err HG.out a4
theorem Get12_high (va : Option Addr) (vc N : Nat) (F : Nat → Int) (p : Int) (intra : Bool) (w : World) (hN : N ≤ 1000000) (hp0 : 0 ≤ p) (hp : 8 * (N : Int) < p) :
    Calls Tryz.prog 12 #[.slice va N vc, .int .i64 p, .bool intra] w (GotB F N p intra w) := by
  have hp1 : ¬ p < 0 := by omega
  have hG : GB F N p intra 5 0 0 0 := .inl ⟨by unfold hE; rw [if_neg hp1, if_pos hp]; decide, by unfold hE; rw [if_neg hp1, if_pos hp], rfl, rfl, rfl⟩
  have HG := Lib.hid hG
  have HR := Lib.hid (R3.new w)
  have HC := Lib.hid (fun V => Count_any va N vc V hN)
  clear hG
  go_enter Tryz.func12, Tryz.ntmps12
  go_upto_region 1 with fail
  generalize ((w.alloc _).alloc _).alloc _ = V at *
  obtain ⟨f0, f1, f2, f3, d0, d1, d2, d3⟩ := HR.out.facts
  have G := Lib.hid (HR.out.set 0 none 0 0 0 5)
  unfold set3 at G
  go_wp2_with (go_at_call 35; refine (HC.out _).mono ?_; rintro e w' ⟨rfl, rfl⟩)
  obtain ⟨a1, a2, a3, a4⟩ := G.out
  refine bodyPost_ret (results_get3 rfl _ rfl rfl rfl a1 a2 a3) rfl ?_
  exact GotB.err HG.out a4
end
end Dk
end Go.Proofs.YtpibeocngkjolaaGreatDoor

namespace Go.Proofs.YtpibeocngkjolaaGreatDoor
open Go.RowKit Go.Shelf
attribute [local go_sem] Oper.semAt_some
set_option linter.unusedSimpArgs false
set_option linter.unusedVariables false
namespace Dk
open Cf Bk Sc
/-- what is made ahead of an intra block's first code. -/
structure S6 (w : World) (va : Option Addr) (vc N : Nat) (G dc lf : Int) (V : World) : Prop where
  r : R3 w V
  c : At V (w.heap.size + 3) #[.slice va N vc, .int .i64 G] 60
  kd : At V (w.heap.size + 4) #[.int .i64 dc, .slice none 0 0, .bool true] 62
  lf : Boxed V (w.heap.size + 5) 3 (.int .i64 lf)
  z : V.heap.size = w.heap.size + 6
theorem S6.new (w : World) (va : Option Addr) (vc N : Nat) (p : Int) : S6 w va vc N p 0 64 ((((((w.alloc (.cells #[.int .i64 0, .slice none 0 0] 27)).alloc (.cells #[.int .i64 0] 3)).alloc (.cells #[.int .i64 0] 28)).alloc (.cells #[.slice va N vc, .int .i64 p] 60)).alloc (.cells #[.int .i64 0, .slice none 0 0, .bool true] 62)).alloc (.cells #[.int .i64 64] 3)) := by
  have h0 := R3.new w
  generalize hV : ((w.alloc (.cells #[.int .i64 0, .slice none 0 0] 27)).alloc (.cells #[.int .i64 0] 3)).alloc (.cells #[.int .i64 0] 28) = V at *
  have hz : V.heap.size = w.heap.size + 3 := by rw [← hV]; simp
  have h1 := At.new V #[.slice va N vc, .int .i64 p] 60
  have b1 := (Below.refl _ V).alloc (Nat.le_refl _) (.cells #[.slice va N vc, .int .i64 p] 60)
  have h0 := h0.below b1
  have z1 : (V.alloc (.cells #[.slice va N vc, .int .i64 p] 60)).heap.size = w.heap.size + 4 := by simp; omega
  generalize V.alloc (.cells #[.slice va N vc, .int .i64 p] 60) = V1 at *
  have h2 := At.new V1 #[.int .i64 0, .slice none 0 0, .bool true] 62
  have b2 := (Below.refl _ V1).alloc (Nat.le_refl _) (.cells #[.int .i64 0, .slice none 0 0, .bool true] 62)
  have h0 := h0.below b2
  have h1 := h1.below b2
  have z2 : (V1.alloc (.cells #[.int .i64 0, .slice none 0 0, .bool true] 62)).heap.size = w.heap.size + 5 := by simp; omega
  generalize V1.alloc (.cells #[.int .i64 0, .slice none 0 0, .bool true] 62) = V2 at *
  have h3 := At.new V2 #[.int .i64 64] 3
  have b3 := (Below.refl _ V2).alloc (Nat.le_refl _) (.cells #[.int .i64 64] 3)
  have h1 := h1.below b3
  have h2 := h2.below b3
  rw [hz] at h1
  rw [z1] at h2
  rw [z2] at h3
  exact ⟨h0.below b3, h1, h2, h3, by simp; omega⟩
theorem S6.facts {w : World} {va : Option Addr} {vc N : Nat} {G dc lf : Int} {V : World} (h : S6 w va vc N G dc lf V) (d : Int) : V.frozen? ⟨w.heap.size + 4, 0, none⟩ = false ∧ V.frozen? ⟨w.heap.size + 3, 1, none⟩ = false ∧ V.frozen? ⟨w.heap.size + 5, 0, none⟩ = false ∧ V.cell? ⟨w.heap.size + 4, 0, none⟩ = some (.int .i64 dc) ∧ V.cell? ⟨w.heap.size + 5, 0, none⟩ = some (.int .i64 lf) ∧ V.cell? ⟨w.heap.size + 3, 1, none⟩ = some (.int .i64 G) ∧ (V.setCell ⟨w.heap.size + 4, 0, none⟩ (.int .i64 d)).cell? ⟨w.heap.size + 3, 1, none⟩ = some (.int .i64 G) :=
  ⟨frozen_of_row h.kd 0, frozen_of_row h.c 1, h.lf.frozen, h.kd.cell 0 _ rfl, h.lf.cell, h.c.cell 1 _ rfl, grown_cell (grown_cell2 V (w.heap.size + 4) 0 (.int .i64 d)) (fun e => by have := Option.some.inj e; omega) (h.c.cell 1 _ rfl)⟩
theorem R3.grown {w V V' : World} (h : R3 w V) {b : Nat} (hg : V.grownBy V' (some b)) (hb : w.heap.size + 3 ≤ b) : R3 w V' :=
  ⟨h.r6.kept hg (fun e => by have := Option.some.inj e; omega), h.r7.kept hg (fun e => by have := Option.some.inj e; omega), h.r8.kept hg (fun e => by have := Option.some.inj e; omega), h.b.grown hg h.b.size (fun q e => by have := Option.some.inj e; omega)⟩
theorem S6.set {w : World} {va : Option Addr} {vc N : Nat} {G dc lf : Int} {V : World} (h : S6 w va vc N G dc lf V) (dc' G' lf' : Int) : S6 w va vc N G' dc' lf' (((V.setCell ⟨w.heap.size + 4, 0, none⟩ (.int .i64 dc')).setCell ⟨w.heap.size + 3, 1, none⟩ (.int .i64 G')).setCell ⟨w.heap.size + 5, 0, none⟩ (.int .i64 lf')) := by
  have g1 := grown_cell2 V (w.heap.size + 4) 0 (.int .i64 dc')
  have g2 := grown_cell2 (V.setCell ⟨w.heap.size + 4, 0, none⟩ (.int .i64 dc')) (w.heap.size + 3) 1 (.int .i64 G')
  have g3 := grown_cell2 ((V.setCell ⟨w.heap.size + 4, 0, none⟩ (.int .i64 dc')).setCell ⟨w.heap.size + 3, 1, none⟩ (.int .i64 G')) (w.heap.size + 5) 0 (.int .i64 lf')
  have ne : ∀ a b : Nat, a ≠ b → some a ≠ some b := fun a b h e => h (Option.some.inj e)
  exact ⟨((h.r.grown g1 (by omega)).grown g2 (by omega)).grown g3 (by omega), At.kept (vs := #[.slice va N vc, .int .i64 G']) (ob_set (h.c.kept g1 (ne _ _ (by omega))) 1 (.int .i64 G')) g3 (ne _ _ (by omega)), At.kept (At.kept (vs := #[.int .i64 dc', .slice none 0 0, .bool true]) (ob_set h.kd 0 (.int .i64 dc')) g2 (ne _ _ (by omega))) g3 (ne _ _ (by omega)), ((h.lf.kept g1 (ne _ _ (by omega))).kept g2 (ne _ _ (by omega))).set (.int .i64 lf'), by simpa using h.z⟩
/-- the world at the range, of an intra block. -/
theorem S6.start {w : World} {va : Option Addr} {vc N : Nat} {G dc lf : Int} {V : World} (h : S6 w va vc N G dc lf V) (F : Nat → Int) (r l : Nat → Int) (first : Bool) (hs : Sl .u8 w (.slice va N vc) N F) (hT : Tabs w) {W : World} (hW : W = (V.alloc (.cells #[.pointer (some ⟨w.heap.size + 3, 0, none⟩)] 58)).alloc (.cells #[.bool first] 4)) :
    GS w dc true none 0 0 r l lf W ∧ IT (w.heap.size + 6) (w.heap.size + 7) (w.heap.size + 3) (.slice va N vc) N F first G W ∧ W.heap.size = w.heap.size + 8 := by
  subst hW
  have b1 := (Below.refl _ V).alloc (Nat.le_refl _) (.cells #[.pointer (some ⟨w.heap.size + 3, 0, none⟩)] 58)
  have h1 := At.new V #[.pointer (some ⟨w.heap.size + 3, 0, none⟩)] 58
  rw [h.z] at h1
  have z1 : (V.alloc (.cells #[.pointer (some ⟨w.heap.size + 3, 0, none⟩)] 58)).heap.size = w.heap.size + 7 := by simp [h.z]
  have r1 := h.r.below b1
  have c1 := h.c.below b1
  have k1 := h.kd.below b1
  have l1 : At _ _ _ _ := At.below (B := w.heap.size + 5) (vs := #[.int .i64 lf]) (t := 3) h.lf b1
  generalize V.alloc (.cells #[.pointer (some ⟨w.heap.size + 3, 0, none⟩)] 58) = V1 at *
  have b2 := (Below.refl _ V1).alloc (Nat.le_refl _) (.cells #[.bool first] 4)
  have h2 := At.new V1 #[.bool first] 4
  rw [z1] at h2
  have z2 : (V1.alloc (.cells #[.bool first] 4)).heap.size = w.heap.size + 8 := by simp [z1]
  have r2 := r1.below b2
  have c2 := c1.below b2
  have k2 := k1.below b2
  have l2 := l1.below b2
  have p2 := h1.below b2
  exact ⟨⟨r2.r6, r2.r7, r2.r8, k2, l2, ownP_nil _ _ _ _, r2.b, by omega⟩, ⟨p2, h2, c2, hT.below r2.b, hs.below r2.b⟩, z2⟩
section
set_option maxRecDepth 100000
set_option maxHeartbeats 16000000
theorem Read_far (a : Option Addr) (N c : Nat) (p : Int) (w : World) (hN : N ≤ 1000000) (hp0 : 0 ≤ p) (hp : p ≤ 8 * (N : Int)) (h : 8 * (N : Int) < p + 8) :
    Calls Tryz.prog 36 #[.slice a N c, .int .i64 p, .int .i64 8] w fun e w' => e = .returned (.tuple #[.int .i64 0, .int .i64 5]) ∧ w = w' := by
  have HC := Lib.hid (fun V => Count_any a N c V hN)
  have e1 : wrap64 (8 * (N : Int) - p) = 8 * (N : Int) - p := w64 (by omega)
  have h1 : ¬ p < 0 := by omega
  have h2 : 8 > 8 * (N : Int) - p := by omega
  go_enter Tryz.func36, Tryz.ntmps36
  go_wp2_with (go_at_call 35; refine (HC.out _).mono ?_; rintro e w' ⟨rfl, rfl⟩)
  go_ret2
  exact ⟨rfl, rfl⟩
theorem Get12_intra (va : Option Addr) (vc N : Nat) (F : Nat → Int) (p : Int) (w : World) (hN : N ≤ 1000000) (hs : Sl .u8 w (.slice va N vc) N F) (hb : ∀ j, j < N → 0 ≤ F j ∧ F j ≤ 255) (hT : Tabs w) (hp0 : 0 ≤ p) (hp8 : p ≤ 8 * (N : Int)) :
    Calls Tryz.prog 12 #[.slice va N vc, .int .i64 p, .bool true] w (GotB F N p true w) := by
  obtain ⟨i0, hi, hz0, hz1, hz2⟩ := info_parts info_pair
  have HC := Lib.hid (fun V => Count_any va N vc V hN)
  have hp1 : ¬ p < 0 := by omega
  have hp2 : ¬ 8 * (N : Int) < p := by omega
  have HS6 := Lib.hid (S6.new w va vc N p)
  by_cases h8 : 8 * (N : Int) < p + 8
  · have HG : Hid (GB F N p true 5 0 0 0) := Lib.hid (by
      refine .inl ⟨?_, ?_, rfl, rfl, rfl⟩ <;> (unfold hE; rw [if_neg hp1, if_neg hp2, if_neg (by decide), if_pos h8]) <;> decide)
    have HRD := Lib.hid (fun V => Read_far va N vc p V hN hp0 hp8 h8)
    clear hs hb h8 hT
    go_enter Tryz.func12, Tryz.ntmps12
    go_upto_region 6 with (go_at_call 35; refine (HC.out _).mono ?_; rintro e w' ⟨rfl, rfl⟩)
    generalize (((((w.alloc _).alloc _).alloc _).alloc _).alloc _).alloc _ = V at *
    obtain ⟨f0, f1, f2, f3, d0, d1, d2, d3⟩ := HS6.out.r.facts
    have G := Lib.hid (HS6.out.r.set 0 none 0 0 0 5)
    unfold set3 at G
    go_wp2_with (go_at_call 36; refine (HRD.out _).mono ?_; rintro e w' ⟨rfl, rfl⟩)
    obtain ⟨a1, a2, a3, a4⟩ := G.out
    refine bodyPost_ret (results_get3 rfl _ rfl rfl rfl a1 a2 a3) rfl ?_
    exact GotB.err HG.out a4
  have hp8n : p + 8 ≤ 8 * (N : Int) := by omega
  have HRD : Hid (∀ W, Below w.heap.size w W → Calls Tryz.prog 36 #[.slice va N vc, .int .i64 p, .int .i64 8] W fun e w' => e = .returned (.tuple #[.int .i64 (rdV F p.toNat 8), .int .i64 0]) ∧ W = w') := Lib.hid fun W hW => by
    have := Read_ok (.slice va N vc) N F p.toNat 8 W hN (hs.below hW) hb (by decide) (by omega)
    rwa [show ((p.toNat : Nat) : Int) = p by omega] at this
  have hv := rdV_bd F p.toNat 8
  have hv2 : 0 ≤ rdV F p.toNat 8 ∧ rdV F p.toNat 8 < 256 := hv
  have HHE : hE F N p true = if rdV F p.toNat 8 = 0 ∨ rdV F p.toNat 8 = 128 then 10 else 0 := by unfold hE; rw [if_neg hp1, if_neg (by omega), if_neg (by decide), if_neg h8]
  have HDC : hD F p true = rdV F p.toNat 8 := rfl
  obtain ⟨dc, hdc⟩ : ∃ x, rdV F p.toNat 8 = x := ⟨_, rfl⟩
  rw [hdc] at HRD hv2 HHE HDC
  clear hv hdc h8
  by_cases hbad : dc = 0 ∨ dc = 128
  · have HG : Hid (GB F N p true 10 0 0 0) := Lib.hid (by
      rw [if_pos hbad] at HHE
      exact .inl ⟨by rw [HHE]; decide, HHE.symm, rfl, rfl, rfl⟩)
    clear hs hb hT HHE HDC
    rcases hbad with rfl | rfl
    all_goals
      go_enter Tryz.func12, Tryz.ntmps12
      go_upto_region 6 with (go_at_call 35; refine (HC.out _).mono ?_; rintro e w' ⟨rfl, rfl⟩)
      generalize (((((w.alloc _).alloc _).alloc _).alloc _).alloc _).alloc _ = V at *
      obtain ⟨f0, f1, f2, f3, d0, d1, d2, d3⟩ := HS6.out.r.facts
      have G := Lib.hid (HS6.out.r.set 0 none 0 0 0 10)
      unfold set3 at G
      go_wp2_with (go_at_call 36; refine (HRD.out _ HS6.out.r.b).mono ?_; rintro e w' ⟨rfl, rfl⟩)
      obtain ⟨a1, a2, a3, a4⟩ := G.out
      refine bodyPost_ret (results_get3 rfl _ rfl rfl rfl a1 a2 a3) rfl ?_
      exact GotB.err HG.out a4
  have HS := Lib.hid hs
  have HBY := Lib.hid hb
  have HT := Lib.hid hT
  have HHP : Hid (HHp F N p true) := Lib.hid (.inl (by rw [HHE, if_neg hbad]))
  have g0 : (dc == 0) = false := by simp; omega
  have g1 : (dc == 128) = false := by simp; omega
  have ew8 : wrap64 (p + 8) = p + 8 := w64 (by omega)
  have HDC2 := Lib.hid HDC
  clear hs hb hT HHE hbad HDC
  refine (callsIn_wide (n := 12)).1 ?_
  refine callsIn_of_wp_marks Tryz.func12 rfl trivial ?_ rfl
  simp only [Tryz.ntmps12, List.size_toArray, List.length_cons, List.length_nil, Nat.reduceAdd, Nat.reduceSub, Array.replicate_succ, Array.replicate_zero, List.push_toArray, List.append_toArray, List.nil_append, List.cons_append]
  refine wpIn_wide.2 ?_
  go_upto_region 6 with (go_at_call 35; refine (HC.out _).mono ?_; rintro e w' ⟨rfl, rfl⟩)
  generalize (((((w.alloc _).alloc _).alloc _).alloc _).alloc _).alloc _ = V at *
  obtain ⟨f0, f1, f2, d0, d1⟩ := HS6.out.facts dc
  have HS7 := Lib.hid (HS6.out.set dc (p + 8) 63)
  go_upto_region 15 with (go_at_call 36; refine (HRD.out _ HS6.out.r.b).mono ?_; rintro e w' ⟨rfl, rfl⟩)
  have HS8 : Hid (S6 w va vc N (p + 8) dc 63 (((V.setCell ⟨w.heap.size + 1 + 1 + 1 + 1, 0, none⟩ (.int .i64 dc)).setCell ⟨w.heap.size + 1 + 1 + 1, 1, none⟩ (.int .i64 (p + 8))).setCell ⟨w.heap.size + 1 + 1 + 1 + 1 + 1, 0, none⟩ (.int .i64 63))) := HS7
  generalize ((V.setCell ⟨w.heap.size + 1 + 1 + 1 + 1, 0, none⟩ (.int .i64 dc)).setCell ⟨w.heap.size + 1 + 1 + 1, 1, none⟩ (.int .i64 (p + 8))).setCell ⟨w.heap.size + 1 + 1 + 1 + 1 + 1, 0, none⟩ (.int .i64 63) = V7 at *
  have z7 := HS8.out.z
  clear HS6 HS7 f0 f1 f2 d0 d1
  refine (wpIn_wide (n := 12)).1 ?_
  gi_wp2_with (refine ⟨trivial, ?_⟩; gi_at_call 37; refine (callsIn_wide.2 (cpairs_any _ false _)).mono ?_; rintro e w' ⟨rfl, rfl⟩)
  refine (wpIn_wide (n := 12)).1 ?_
  gi_wp2
  generalize hW0 : ((V7.alloc _).alloc _) = W0
  obtain ⟨G0, T0, z0⟩ := HS8.out.start F (fun j => (gg F N false (hP p true) j).r) (fun j => (gg F N false (hP p true) j).l) false HS.out HT.out hW0.symm
  clear hW0 HS8
  have lc := T0.c.lt
  refine rangeC (gf := 62) (lb := #[.pointer (some ⟨w.heap.size + 6, 0, none⟩), .pointer (some ⟨w.heap.size + 7, 0, none⟩)]) rfl (enters_of Tryz.func62 (by kernel_rfl) rfl)
    (pairs_seq va vc N F false (p + 8) hN HBY.out (by omega) hp8n 11 (by decide) (w.heap.size + 6) (w.heap.size + 7) (w.heap.size + 3) (by omega) (by omega) (by omega) W0 T0) ?ends (by omega) (by omega) kpI_t kpI_l (fun _ => rfl)
    (fun k V => (∀ j, j < k → okG F N false (hP p true) j) ∧ ∃ q cc, GS w dc true q k cc (fun j => (gg F N false (hP p true) j).r) (fun j => (gg F N false (hP p true) j).l) (64 - pl F N false (hP p true) k) V)
    (fun c k V => c = .ret ∧ ∃ E, GB F N p true E 0 0 0 ∧ At V w.heap.size #[.int .i64 0, .slice none 0 0] 27 ∧ Boxed V (w.heap.size + 1) 3 (.int .i64 0) ∧ Boxed V (w.heap.size + 2) 28 (.int .i64 E) ∧ Below w.heap.size w V)
    ?own ?ownx ?keep ⟨fun j hj => by omega, none, 0, G0⟩
    (fun k a' V => ∃ PB, w.heap.size + 8 ≤ PB ∧ V.heap[PB]? = some (.cells #[.int .i64 (gg F N false (p + 8) k).r, .int .i64 (gg F N false (p + 8) k).l] 69 (0, 0)) ∧ a' = { tmps := #[Value.slice va N vc, Value.int IntKind.i64 p, Value.bool true, undef, undef, undef, Value.pointer (some { block := w.heap.size, off := 0 }), Value.pointer (some { block := w.heap.size + 1, off := 0 }), Value.pointer (some { block := w.heap.size + 1 + 1, off := 0 }), Value.pointer (some { block := w.heap.size + 1 + 1 + 1, off := 0 }), Value.pointer (some { block := w.heap.size + 1 + 1 + 1 + 1, off := 0 }), Value.pointer (some { block := w.heap.size + 1 + 1 + 1 + 1 + 1, off := 0 }), Value.int IntKind.i64 dc, Value.int IntKind.i64 0, Value.pointer (some { block := PB, off := 0 }), Value.int IntKind.i64 (gg F N false (p + 8) k).e, Value.bool false, Value.int IntKind.i64 p, Value.bool false, undef, Value.bool (decide (8 * (N : Int) < p)), Value.int IntKind.i64 p, Value.slice va N vc, Value.int IntKind.i64 (8 * (N : Int)), Value.bool (decide (8 * (N : Int) < p)), undef, Value.slice va N vc, Value.int IntKind.i64 p, Value.agg #[Value.slice va N vc, Value.int IntKind.i64 p], Value.pointer (some { block := w.heap.size + 1 + 1 + 1, off := 0 }), Value.bool true, Value.agg #[Value.int IntKind.i64 0, Value.slice none 0 0, Value.bool true], Value.bool true, Value.tuple #[Value.int IntKind.i64 dc, Value.int IntKind.i64 0], Value.slice va N vc, Value.int IntKind.i64 p, Value.tuple #[Value.int IntKind.i64 dc, Value.int IntKind.i64 0], Value.int IntKind.i64 dc, Value.int IntKind.i64 0, Value.bool false, Value.int IntKind.i64 0, Value.bool false, undef, undef, Value.bool false, Value.int IntKind.i64 dc, Value.bool false, Value.bool false, Value.int IntKind.i64 dc, Value.bool false, Value.bool false, undef, Value.int IntKind.i64 dc, Value.pointer (some { block := w.heap.size + 1 + 1 + 1 + 1, off := 0 }), Value.pointer (some { block := w.heap.size + 1 + 1 + 1 + 1, off := 0 }), Value.pointer (some { block := w.heap.size + 1 + 1 + 1, off := 0 }), Value.pointer (some { block := w.heap.size + 1 + 1 + 1, off := 0 }), Value.pointer (some { block := w.heap.size + 1 + 1 + 1, off := 1 }), Value.int IntKind.i64 p, Value.int IntKind.i64 (p + 8), Value.pointer (some { block := w.heap.size + 1 + 1 + 1, off := 0 }), Value.pointer (some { block := w.heap.size + 1 + 1 + 1, off := 1 }), Value.pointer (some { block := w.heap.size + 1 + 1 + 1, off := 0 }), Value.bool true, Value.bool false, Value.func (Fn.func 62) #[] #[Value.pointer (some { block := w.heap.size + 6, off := 0 }), Value.pointer (some { block := w.heap.size + 6 + 1, off := 0 })], Value.agg #[Value.int IntKind.i64 (gg F N false (p + 8) k).r, Value.int IntKind.i64 (gg F N false (p + 8) k).l], Value.int IntKind.i64 (gg F N false (p + 8) k).e, undef, undef, undef, undef, undef, undef, undef, undef, undef, undef, undef, undef, undef, undef, undef, undef, undef, undef, undef, undef, undef, undef, undef, undef, undef, undef, undef, undef], defers := [] })
    (fun k a' => fun s A C row ⟨PB, h0, h1, h2⟩ hg hr => ⟨PB, h0, Own.from (obj_own (β := Unit) PB (.cells #[.int .i64 (gg F N false (p + 8) k).r, .int .i64 (gg F N false (p + 8) k).l] 69 (0, 0)) rfl) _ () A C row h1 hg hr, h2⟩)
    ?assign ?body ?done ?stop
  case ends => exact fun k A C row h hg hr => h.imp (fun ⟨a, b, c⟩ => ⟨a, b, c.kept hg (fun e => by have := (hr _ e.symm).1; omega)⟩) id
  case own => exact fun k A C row ⟨h1, q, cc, h2⟩ hg hr => ⟨h1, q, cc, h2.own hg (fun x e => by have := hr x e; exact ⟨by omega, this.2⟩)⟩
  case ownx => exact fun c k A C row ⟨h1, E, h2, h3, h4, h5, h6⟩ hg hr => ⟨h1, E, h2, h3.kept hg (fun e => by have := (hr _ e.symm).1; omega), h4.kept hg (fun e => by have := (hr _ e.symm).1; omega), h5.kept hg (fun e => by have := (hr _ e.symm).1; omega), h6.grown hg h6.size (fun g e => by have := (hr g e).1; omega)⟩
  case keep => exact fun b hb k A C ⟨h1, q, cc, h2⟩ hg => ⟨h1, q, cc, h2.keep hb hg⟩
  case assign =>
    rintro l x V K sV hl hx ⟨h1, q, cc, h2⟩ hK
    dsimp only [encP]
    gi_wp2
    have hb : Below V.heap.size V (V.alloc (.cells #[.int .i64 (gg F N false (p + 8) x).r, .int .i64 (gg F N false (p + 8) x).l] 69)) := (Below.refl _ V).alloc (Nat.le_refl _) _
    exact hK _ _ ((KeepsOthers.alloc _ _).from _) (kpI_below hb) ⟨h1, q, cc, h2.below hb⟩ ⟨V.heap.size, h2.z, heap_alloc_new V _, rfl⟩
  case body =>
    rintro lp x a' V hlp ⟨r2, hr2⟩ ⟨hok, q, cc, h0⟩ ⟨PB, hPB, hq, rfl⟩ hlt hen
    have hgc := gg_cases (F := F) (N := N) (fi := false) (p0 := p + 8) x
    have HERR := Lib.hid (fun E => gb_err (E := E) (p := p) (intra := true) (fi := false) (k := x) HHP.out rfl hok)
    have HRUN : Hid ((gg F N false (p + 8) x).e = 0 → (gg F N false (p + 8) x).en = false → 63 < pl F N false (hP p true) x + (gg F N false (p + 8) x).r → GB F N p true 11 0 0 0) := Lib.hid (gb_run (p := p) (intra := true) (fi := false) (k := x) HHP.out rfl hok)
    have HW3 := Lib.hid (fun d q' n' c' b E => h0.wr3 HT.out HS.out d q' n' c' b E W0.heap.size lp (by omega))
    have q0 := cell_row hq (i := 0) rfl
    have q1 := cell_row hq (i := 1) rfl
    have f0 := frozen_of_row h0.r6 0
    have f1 := frozen_of_row h0.r6 1
    have d0 := h0.r6.cell 0 _ rfl
    have d1 := h0.r6.cell 1 _ rfl
    have f7 := h0.r7.frozen
    have d7 := h0.r7.cell
    have f8 := h0.r8.frozen
    have d8 := h0.r8.cell
    have H0 := Lib.hid h0
    have HOK := Lib.hid hok
    change (∃ e, gg F N false (p + 8) x = gErr e ∧ _) ∨ _ at hgc
    change Hid (∀ E, (gg F N false (p + 8) x).e = E → _) at HERR
    change (gg F N false (p + 8) x).en = false at hen
    generalize hgv : gg F N false (p + 8) x = gv at *
    have HGV := Lib.hid hgv
    clear hgv h0 hok hr2 hq
    obtain ⟨gr, gl, gen, gn, ge⟩ := gv
    dsimp only at *
    rcases hgc with ⟨e5, he5, hee⟩ | ⟨he0, _, hGok⟩
    · have hne : (ge != 0) = true := by
        have : ge = e5 := congrArg G5.e he5
        simp; omega
      have hne2 : ge ≠ 0 := by simpa using hne
      have HBAD := Lib.hid (HERR.out ge rfl hne2)
      have G := Lib.hid (HW3.out 0 none 0 0 0 ge)
      clear he5 hee hne2 HERR HRUN HW3 G0 T0
      unfold set3 at G
      gi_wp2
      exact ⟨G.out.1, G.out.2.1, rfl, ge, HBAD.out, G.out.2.2.1, G.out.2.2.2.1, G.out.2.2.2.2.1, G.out.2.2.2.2.2⟩
    · obtain ⟨hn2, hn20, hfit, hr0, hr63, hpr, hfi⟩ := hGok
      dsimp only at hn2 hn20 hfit hr0 hr63 hpr hfi hen
      subst he0
      subst hen
      have hpl := pl_bd x HOK.out
      have HPL : Hid (pl F N false (hP p true) x = pl F N false (hP p true) x) := Lib.hid rfl
      have HRUN2 := Lib.hid (fun h => HRUN.out rfl rfl h)
      obtain ⟨PL, hPL⟩ : ∃ y, pl F N false (hP p true) x = y := ⟨_, rfl⟩
      rw [hPL] at H0 hpl HRUN2
      have HPE := Lib.hid hPL
      have e1 : wrap64 (gr + 1) = gr + 1 := w64 (by omega)
      obtain ⟨LF, hLF⟩ : ∃ y, 64 - PL = y := ⟨_, rfl⟩
      obtain ⟨LG, hLG⟩ : ∃ y, 64 - PL - (gr + 1) = y := ⟨_, rfl⟩
      have GL := Lib.hid (H0.out.left HT.out HS.out LG W0.heap.size lp (by omega))
      rw [hLF] at H0 hLG
      have e2 : wrap64 (LF - (gr + 1)) = LG := by rw [w64 (by omega)]; exact hLG
      have l0 := H0.out.lf.cell
      have l1 := H0.out.lf.frozen
      clear hpr hfi hPL HERR HRUN HW3 G0 T0
      have HIN := Lib.hid (fun q2 c2 W2 (h : GS w dc true q2 (x + 1) c2 (fun j => (gg F N false (hP p true) j).r) (fun j => (gg F N false (hP p true) j).l) LG W2) (hge : ¬ LG < 0) => show (∀ j, j < x + 1 → okG F N false (hP p true) j) ∧ ∃ q cc, GS w dc true q (x + 1) cc (fun j => (gg F N false (hP p true) j).r) (fun j => (gg F N false (hP p true) j).l) (64 - pl F N false (hP p true) (x + 1)) W2 from by
        have hgv2 : gg F N false (hP p true) x = ⟨gr, gl, false, gn, 0⟩ := HGV.out
        refine ⟨fun j hj => ?_, q2, c2, ?_⟩
        · by_cases hjx : j = x
          · subst hjx
            refine ⟨by rw [hgv2], by rw [hgv2], ?_⟩
            have e5 : pl F N false (hP p true) j = PL := HPE.out
            rw [e5, hgv2]
            show PL + gr ≤ 63
            omega
          · exact HOK.out j (by omega)
        · have e5 : pl F N false (hP p true) x = PL := HPE.out
          have e6 : 64 - pl F N false (hP p true) (x + 1) = LG := by
            rw [pl_succ, e5, hgv2]
            show 64 - (PL + gr + 1) = LG
            omega
          rw [e6]
          exact h)
      have g5 := grown_cell2 V (w.heap.size + 5) 0 (.int .i64 LG)
      have y0 := grown_cell g5 (fun e => by have := Option.some.inj e; omega) q0
      have y1 := grown_cell g5 (fun e => by have := Option.some.inj e; omega) q1
      have kd1 := GL.out.1.kd.cell 1 _ rfl
      have l2 := GL.out.1.lf.cell
      have z5 := GL.out.1.z
      have hz8 : w.heap.size + 8 ≤ W0.heap.size := by omega
      clear g5 hlp z0 d0 d1 f0 f1 d7 f7 d8 f8 HHP HBY
      gi_upto_region 21 with fail
      generalize V.setCell ⟨w.heap.size + 5, 0, none⟩ (.int .i64 LG) = V1 at *
      clear l0 l1 q0 q1 e1 e2
      by_cases hrun : LG < 0
      · have HBAD := Lib.hid (HRUN2.out (by omega))
        have f0 := frozen_of_row GL.out.1.r6 0
        have f1 := frozen_of_row GL.out.1.r6 1
        have d0 := GL.out.1.r6.cell 0 _ rfl
        have d1 := GL.out.1.r6.cell 1 _ rfl
        have f7 := GL.out.1.r7.frozen
        have d7 := GL.out.1.r7.cell
        have f8 := GL.out.1.r8.frozen
        have d8 := GL.out.1.r8.cell
        have G := Lib.hid (GL.out.1.wr3 HT.out HS.out 0 none 0 0 0 11 W0.heap.size lp hz8)
        unfold set3 at G
        clear hpl HRUN2 y0 y1 kd1 HIN
        gi_wp2
        have k1 := GL.out.2
        exact ⟨⟨Nat.le_trans k1.1.1 G.out.1.1, fun i o hi ho hc => G.out.1.2 i o hi (k1.1.2 i o hi ho hc) hc⟩, kpI_t k1.2 G.out.2.1, rfl, 11, HBAD.out, G.out.2.2.1, G.out.2.2.2.1, G.out.2.2.2.2.1, G.out.2.2.2.2.2⟩
      · have hx64 : x ≤ 64 := ok_le HOK.out
        have HPC := Lib.hid (pcs_next (fun j => (gg F N false (hP p true) j).r) (fun j => (gg F N false (hP p true) j).l) x)
        have HPG : Hid ((gg F N false (hP p true) x).r = gr ∧ (gg F N false (hP p true) x).l = gl) := Lib.hid (by
          have hgv2 : gg F N false (hP p true) x = ⟨gr, gl, false, gn, 0⟩ := HGV.out
          rw [hgv2]
          exact ⟨rfl, rfl⟩)
        have HPC2 := Lib.hid (show pcs (fun j => (gg F N false (hP p true) j).r) (fun j => (gg F N false (hP p true) j).l) (x + 1) = pcs (fun j => (gg F N false (hP p true) j).r) (fun j => (gg F N false (hP p true) j).l) x ++ [.int .i64 gr, .int .i64 gl] from by rw [HPC.out]; simp only [HPG.out.1, HPG.out.2])
        have bz := GL.out.1.b.size
        clear hpl HRUN2 HPC HPG
        gi_wp2_with (gi_at_builtin; refine wpListIn_append_own _ rfl (.tmp 82) (.tmp 84) 25 rfl (w.heap.size + 8) 69 i0 (.agg #[.int .i64 0, .int .i64 0]) 2 16 Tryz.underlying25 hi hz0 hz1 hz2 rfl (by decide) _ _ _ rfl (GL.out.1.o.alloc _) ⟨_, 0, none⟩ 1 1 [.int .i64 gr, .int .i64 gl] rfl rfl (World.news_of_block (cs := #[.int .i64 gr, .int .i64 gl]) (t := 69) (fr := (0, 0)) (heap_alloc_new _ _)) (by simp [Value.oneCell']) (by unfold maxLen; omega) (by omega) (by simp at *; omega) ?_; intro v5 w5 own5 gr5 _; rw [← HPC2.out] at own5; have HX := GL.out.1.push HT.out HS.out own5 gr5 W0.heap.size lp; clear own5 gr5; obtain ⟨q', c', rfl, HR5, hx5⟩ := HX; have f1 := frozen_of_row hx5 1; have c5 := hx5.cell 1 _ rfl; clear hx5)
        have k1 := GL.out.2
        have k2 := HR5.out.2
        exact ⟨⟨Nat.le_trans k1.1.1 k2.1.1, fun i o hi ho hc => k2.1.2 i o hi (k1.1.2 i o hi ho hc) hc⟩, kpI_t k1.2 k2.2, HIN.out q' c' _ HR5.out.1 hrun⟩
  case stop =>
    rintro Dd c pre V hD ⟨rfl, E, hGB, h3, h4, h5, h6⟩ hK
    have hc : w.heap.size + 8 ≤ Dd := by omega
    clear G0 T0 HC HHP HBY HRD HDC2 g0 g1
    gi_wp2
    refine ⟨by simp, .inl ⟨_, _, rfl, run_takeDeferred hK, ?_⟩⟩
    have hg := grownBy_putObj' V Dd (.deferred none)
    have ne : ∀ b, b < w.heap.size + 8 → some b ≠ some Dd := fun b hb e => by have := Option.some.inj e; omega
    exact ⟨_, results_get3 rfl _ rfl rfl rfl (h3.kept hg (ne _ (by omega))) (h4.kept hg (ne _ (by omega))) (h5.kept hg (ne _ (by omega))), GotB.err hGB (h6.grown hg h6.size (fun g e => by have := Option.some.inj e; omega))⟩
  case done =>
    rintro Dd k V hDd hS ⟨hok, q, cc, h0⟩ hK
    have hc : w.heap.size + 8 ≤ Dd := by omega
    rcases hS with ⟨hge, hgen, hcur⟩ | ⟨j, hj, hge⟩
    rotate_left
    · exact absurd (hok j (by omega)).1 hge
    have HFIN := Lib.hid (gb_end (p := p) (intra := true) (fi := false) (k := k) HHP.out rfl hok hge hgen)
    have hgc := gg_cases (F := F) (N := N) (fi := false) (p0 := p + 8) k
    obtain ⟨G, hG⟩ : ∃ G, gp F N false (hP p true) (k + 1) = G := ⟨_, rfl⟩
    have hG1 : 0 ≤ G ∧ G ≤ 8 * (N : Int) := by
      rcases hgc with ⟨e, h1, h2⟩ | ⟨_, h1, h2⟩
      · rw [h1] at hgen; cases hgen
      · have := h2.fit
        have := h2.n2
        have e : gp F N false (p + 8) (k + 1) = gp F N false (p + 8) k + (gg F N false (p + 8) k).n := rfl
        have e2 : gp F N false (p + 8) (k + 1) = G := hG
        omega
    rw [hG] at HFIN
    have hcur2 : At V (w.heap.size + 3) #[.slice va N vc, .int .i64 G] 60 := by rw [← hG]; exact hcur
    have ew : wrap64 (G - p) = G - p := w64 (by omega)
    have HW := Lib.hid (h0.wr3 HT.out HS.out (hD F p true) q k cc (G - p) 0 W0.heap.size (W0.heap.size + 1) (by omega))
    have eD : hD F p true = dc := HDC2.out
    rw [eD] at HFIN HW
    unfold set3 at HW
    have c0 := hcur2.cell 0 _ rfl
    have c1 := hcur2.cell 1 _ rfl
    have f0 := frozen_of_row h0.r6 0
    have f1 := frozen_of_row h0.r6 1
    have d0 := h0.r6.cell 0 _ rfl
    have d1 := h0.r6.cell 1 _ rfl
    have f7 := h0.r7.frozen
    have d7 := h0.r7.cell
    have f8 := h0.r8.frozen
    have d8 := h0.r8.cell
    have e0 := h0.kd.cell 0 _ rfl
    have e1 := h0.kd.cell 1 _ rfl
    have H0 := Lib.hid h0
    have HK := Lib.hid hK
    have HCC := Lib.hid hc
    clear hok h0 hK hcur hcur2 hge hgen hgc hG eD G0 T0 HC HHP HBY hc
    gi_wp2
    go_upto_region 24 with fail
    go_region
    have hK2 := HW.out.1.2 Dd _ hDd HK.out rfl
    have HO := Lib.hid (set3_own H0.out dc q k cc (G - p) 0)
    unfold set3 at HO
    obtain ⟨_, _, a1, a2, a3, a4⟩ := HW.out
    generalize (((V.setCell ⟨w.heap.size, 0, none⟩ (.int .i64 dc)).setCell ⟨w.heap.size, 1, none⟩ (.slice q k cc)).setCell ⟨w.heap.size + 1, 0, none⟩ (.int .i64 (G - p))).setCell ⟨w.heap.size + 1 + 1, 0, none⟩ (.int .i64 0) = V2 at *
    obtain ⟨V3, hV3⟩ : ∃ y, V2.drew = y := ⟨_, rfl⟩
    have hK3 : V3.heap[Dd]? = some (.deferred (some [])) := by rw [← hV3]; exact hK2
    have b1 : At V3 w.heap.size #[.int .i64 dc, .slice q k cc] 27 := by rw [← hV3]; exact a1
    have b2 : Boxed V3 (w.heap.size + 1) 3 (.int .i64 (G - p)) := by rw [← hV3]; exact a2
    have b3 : Boxed V3 (w.heap.size + 2) 28 (.int .i64 0) := by rw [← hV3]; exact a3
    have b4 : Below w.heap.size w V3 := by rw [← hV3]; exact a4.drew
    have b5 : OwnP V3 (w.heap.size + 8) (.slice q k cc) k (fun j => (gg F N false (hP p true) j).r) (fun j => (gg F N false (hP p true) j).l) := by rw [← hV3]; exact HO.out
    have B := Lib.hid (And.intro b1 (And.intro b2 (And.intro b3 (And.intro b4 b5))))
    rw [hV3]
    clear a1 a2 a3 a4 hK2 b1 b2 b3 b4 b5 hV3 HO
    go_wp2_with fail
    refine ⟨by simp, .inl ⟨_, _, rfl, run_takeDeferred hK3, ?_⟩⟩
    have hg := grownBy_putObj' V3 Dd (.deferred none)
    have ne : ∀ b, b < w.heap.size + 8 → some b ≠ some Dd := fun b hb e => by have := Option.some.inj e; have := HCC.out; omega
    obtain ⟨b1, b2, b3, b4, b5⟩ := B.out
    refine ⟨_, results_get3 rfl _ rfl rfl rfl (b1.kept hg (ne _ (by omega))) (b2.kept hg (ne _ (by omega))) (b3.kept hg (ne _ (by omega))), 0, dc, G - p, k, q, cc, HFIN.out, rfl, ?_, b4.grown hg b4.size (fun g e => by have := Option.some.inj e; have := HCC.out; omega)⟩
    exact own_mono (B := w.heap.size + 8) (ownP_own (B := w.heap.size + 8) (w.heap.size + 8) _ k _ _ () _ _ (some Dd) b5 hg (fun x e => by obtain rfl := Option.some.inj e; exact ⟨HCC.out, _, hK3, rfl⟩)) (by omega)
end
end Dk
end Go.Proofs.YtpibeocngkjolaaGreatDoor
