/- build: the picture's size, the picture ahead, the closures of Samples. -/
import Derived.Test.YtbmglemjfodfhaaGreatMgBk
import Derived.Test.YtbmglemjfodfhaaGreatMgCpB
import Derived.Test.YtbmglemjfodfhaaGreatMgFet
import Derived.Test.YtbmglemjfodfhaaGreatMgLoopC
import Derived.Test.YtbmglemjfodfhaaGreatMgPaG
set_option linter.unusedVariables false
set_option linter.unusedSimpArgs false

namespace Go.Proofs.YtbmglemjfodfhaaGreat
open Go.RowKit
namespace Bu
open Bk Fr Pt Pa

abbrev sp (n g a : Int) : Value := .agg #[.int .i64 n, .int .i64 g, .int .i64 a]
def zS (n g a : Int) : Int := if cE n g a = 0 then zV n else 0
theorem cE_n {n g a : Int} (h : cE n g a = 0) : n = 0 ∨ n = 1 := (cE_cases n g a h).1
theorem size_any (n g a : Int) (w : World) :
    Calls Tryz.prog 44 #[sp n g a] w fun e w' => e = .returned (.tuple #[.int .i64 (zS n g a), .int .i64 (cE n g a)]) ∧ Below w.heap.size w w' := by
  have HC := Lib.hid (fun V => Corner_any n g a V)
  have HB := Lib.hid ((Below.refl w.heap.size w).alloc (Nat.le_refl _) (.cells #[.int .i64 n, .int .i64 g, .int .i64 a] 28))
  have HA := Lib.hid (At.new w #[.int .i64 n, .int .i64 g, .int .i64 a] 28)
  have HS := Lib.hid (fun V => Size_any n V)
  have HN := Lib.hid (@cE_n n g a)
  have HZ : zS n g a = if cE n g a = 0 then zV n else 0 := rfl
  rw [HZ]
  clear HZ
  obtain ⟨E, hE⟩ : ∃ E, cE n g a = E := ⟨_, rfl⟩
  obtain ⟨X, hX⟩ : ∃ X, cX n g a = X := ⟨_, rfl⟩
  obtain ⟨Y, hY⟩ : ∃ Y, cY n g a = Y := ⟨_, rfl⟩
  rw [hE, hX, hY] at HC
  rw [hE] at HN
  rw [hE]
  clear hE hX hY
  by_cases h0 : E = 0
  · rw [if_pos h0]
    have t1 : (E != 0) = false := by simp [h0]
    have hn := HN.out h0
    have e1 : fE n = 0 := by rcases hn with rfl | rfl <;> rfl
    rw [e1] at HS
    have H0 := Lib.hid h0
    clear h0 hn e1 HN
    go_enter Tryz.func44, Tryz.ntmps44
    go_wp2_with (first
      | (go_at_call 86; refine (HC.out _).mono ?_; rintro e w1 ⟨rfl, h1⟩; have HB := Lib.hid (chain HB.out h1); have HA := Lib.hid (HA.out.below h1); have k0 := HA.out.cell 0 _ rfl; clear h1)
      | (go_at_call 73; refine (HS.out _).mono ?_; rintro e w2 ⟨rfl, rfl⟩))
    go_ret2
    exact ⟨by rw [H0.out]; rfl, HB.out⟩
  · rw [if_neg h0]
    have t1 : (E != 0) = true := by simp [h0]
    clear h0
    go_enter Tryz.func44, Tryz.ntmps44
    go_wp2_with (first
      | (go_at_call 86; refine (HC.out _).mono ?_; rintro e w1 ⟨rfl, h1⟩; have HB := Lib.hid (chain HB.out h1); clear h1))
    go_ret2
    exact ⟨rfl, HB.out⟩
/-- the picture ahead: a grey one, if there is none. -/
def aN (N : Nat) (n : Int) : Nat := if N = 0 then gryN n else N
def aF (N : Nat) (f : Nat → Int) : Nat → Int := if N = 0 then fun _ => 128 else f
theorem ahead_any (a : Option Addr) (N c : Nat) (f : Nat → Int) (n : Int) (w : World) (hs : Sl .u8 w (.slice a N c) N f) :
    Calls Tryz.prog 46 #[.slice a N c, .int .i64 n] w fun e w' => ∃ v, e = .returned v ∧ Sl .u8 w' v (aN N n) (aF N f) ∧ (v = .slice a N c ∨ Res .u8 w.heap.size w' v (aN N n) (aF N f)) ∧ Below w.heap.size w w' := by
  have HS := Lib.hid hs
  clear hs
  by_cases h0 : N = 0
  · have e1 : aN N n = gryN n := if_pos h0
    have e2 : aF N f = fun _ => 128 := if_pos h0
    rw [e1, e2]
    subst h0
    have HG := Lib.hid (fun V => Grey_any n V)
    clear e1 e2
    go_enter Tryz.func46, Tryz.ntmps46
    go_wp2_with (go_at_call 30; refine (HG.out _).mono ?_; rintro e w1 ⟨v, rfl, hR, h1⟩; have HB := Lib.hid h1; have HR := Lib.hid hR; clear h1 hR)
    go_ret
    exact ⟨v, rfl, HR.out.sl, .inr HR.out, HB.out⟩
  · have e1 : aN N n = N := if_neg h0
    have e2 : aF N f = f := if_neg h0
    rw [e1, e2]
    have t1 : ((N : Int) == 0) = false := by simp; omega
    clear e1 e2 h0
    go_enter Tryz.func46, Tryz.ntmps46
    go_wp2_with fail
    go_ret
    exact ⟨_, rfl, HS.out, .inl rfl, Below.refl _ _⟩
/-- black. -/
theorem black_any (k : Int) (w : World) :
    Calls Tryz.prog 51 #[.int .i64 k] w fun e w' => ∃ v, e = .returned v ∧ Res .u8 w.heap.size w' v 64 (fun _ => 0) ∧ Below w.heap.size w w' := by
  obtain ⟨i0, hi, hz0, hz1, hz2⟩ := info_parts info_byte
  go_enter Tryz.func51, Tryz.ntmps51
  go_wp2_with (refine wpList_make_full w rfl _ _ 30 rfl w.heap.size 5 i0 (.int .u8 0) 1 Tryz.underlying30 hi hz0 hz1 .i64 .i64 _ _ 64 rfl rfl rfl rfl (by rw [hz2]; omega) (by unfold maxLen; omega) (Nat.le_refl _) ?_; intro w1 hown hgr; have HA := Lib.hid (made_sl hown); have HB := Lib.hid ((Below.refl w.heap.size w).grown hgr (Nat.le_refl _) (fun _ e => by cases e)); clear hown hgr)
  go_ret
  exact ⟨_, rfl, HA.out, HB.out⟩
theorem wf_small {x : Int} (h : -15 ≤ x ∧ x ≤ 15) : (Lit.int .i64 x).wf = true := by
  simp only [Lit.wf, Bool.and_eq_true, decide_eq_true_eq]
  have h1 : IntKind.i64.min = -9223372036854775808 := by decide
  have h2 : IntKind.i64.max = 9223372036854775807 := by decide
  omega
/-- what Samples' closures see. -/
structure Sees (V : World) (p4 p5 p6 : Nat) (n g a : Int) (ad kd qt x y pt : Int) (vb vf : Value) (N : Nat) (f : Nat → Int) : Prop where
  fr : At V p4 #[vf] 30
  s : At V p5 #[.int .i64 n, .int .i64 g, .int .i64 a] 28
  m : At V p6 #[.int .i64 ad, .int .i64 kd, .int .i64 qt, .int .i64 x, .int .i64 y, .int .i64 pt, vb] 24
  pic : Sl .u8 V vf N f
theorem Sees.below {V V' : World} {p4 p5 p6 : Nat} {n g a ad kd qt x y pt : Int} {vb vf : Value} {N : Nat} {f : Nat → Int} (h : Sees V p4 p5 p6 n g a ad kd qt x y pt vb vf N f) (hb : Below V.heap.size V V') : Sees V' p4 p5 p6 n g a ad kd qt x y pt vb vf N f :=
  ⟨h.fr.below hb, h.s.below hb, h.m.below hb, h.pic.below hb⟩
theorem fetched_any (k : Int) (p4 p5 p6 : Nat) (n g a ad kd qt x y pt : Int) (vb vf : Value) (N : Nat) (f : Nat → Int) (w : World) (h : Sees w p4 p5 p6 n g a ad kd qt x y pt vb vf N f)
    (hk : 1 ≤ k ∧ k ≤ 6) (hc : cE n g a = 0) (hN : (N : Int) = zV n) (hv : Mo.vE n g a x y = 0) (hx : -15 ≤ x ∧ x ≤ 15) (hy : -15 ≤ y ∧ y ≤ 15) :
    Calls Tryz.prog 47 #[.int .i64 k, .pointer (some ⟨p4, 0, none⟩), .pointer (some ⟨p5, 0, none⟩), .pointer (some ⟨p6, 0, none⟩)] w fun e w' => ∃ v, e = .returned v ∧ Res .u8 w.heap.size w' v 64 (Mo.fetF f n g a k x y) ∧ Below w.heap.size w w' := by
  have HF := Lib.hid (Mo.Fetch_any vf N f n g a k x y w h.pic (wf_small hx) (wf_small hy))
  have e0 : Mo.fetE N n g a k x y = 0 := by unfold Mo.fetE; rw [if_neg (by omega), if_neg (by omega), if_neg (by omega), hv]
  rw [e0, show Mo.fetN N n g a k x y = 64 from if_pos e0] at HF
  obtain ⟨F, hF⟩ : ∃ F, Mo.fetF f n g a k x y = F := ⟨_, rfl⟩
  rw [hF] at HF
  rw [hF]
  have c4 := h.fr.cell 0 _ rfl
  have s0 := h.s.cell 0 _ rfl
  have s1 := h.s.cell 1 _ rfl
  have s2 := h.s.cell 2 _ rfl
  have m3 := h.m.cell 3 _ rfl
  have m4 := h.m.cell 4 _ rfl
  obtain ⟨fa, fc, hvf, _, _, _⟩ := h.pic
  subst hvf
  clear h e0 hF hk hc hN hv hx hy
  go_enter Tryz.func47, Tryz.ntmps47
  go_wp2_with (go_at_call 48; refine HF.out.mono ?_; rintro e w1 ⟨v, rfl, hR, h1⟩; have HR := Lib.hid hR; have HB := Lib.hid h1; clear hR h1)
  go_ret
  exact ⟨_, rfl, HR.out, HB.out⟩
theorem softened_any (k : Int) (p15 p4 p5 p6 : Nat) (n g a ad kd qt x y pt : Int) (vb vf : Value) (N : Nat) (f : Nat → Int) (w : World) (h : Sees w p4 p5 p6 n g a ad kd qt x y pt vb vf N f)
    (h15 : w.cell? ⟨p15, 0, none⟩ = some (.func (.func 47) #[] #[.pointer (some ⟨p4, 0, none⟩), .pointer (some ⟨p5, 0, none⟩), .pointer (some ⟨p6, 0, none⟩)]))
    (hk : 1 ≤ k ∧ k ≤ 6) (hc : cE n g a = 0) (hN : (N : Int) = zV n) (hv : Mo.vE n g a x y = 0) (hx : -15 ≤ x ∧ x ≤ 15) (hy : -15 ≤ y ∧ y ≤ 15) (hb : ∀ i, 0 ≤ Mo.fetF f n g a k x y i ∧ Mo.fetF f n g a k x y i ≤ 255) :
    Calls Tryz.prog 49 #[.int .i64 k, .pointer (some ⟨p15, 0, none⟩)] w fun e w' => ∃ v, e = .returned v ∧ Res .u8 w.heap.size w' v 64 (Lo.filt (Mo.fetF f n g a k x y)) ∧ Below w.heap.size w w' := by
  have HF := Lib.hid (fetched_any k p4 p5 p6 n g a ad kd qt x y pt vb vf N f w h hk hc hN hv hx hy)
  obtain ⟨F, hF⟩ : ∃ F, Mo.fetF f n g a k x y = F := ⟨_, rfl⟩
  rw [hF] at HF hb
  rw [hF]
  have HL := Lib.hid (fun V v (hs : Sl .u8 V v 64 F) => Lo.Filter_any v 64 F V hs hb)
  unfold Lo.Filters at HL
  rw [show Lo.fE 64 = 0 from rfl, show Lo.fN 64 = 64 from rfl] at HL
  obtain ⟨G, hG⟩ : ∃ G, Lo.filt F = G := ⟨_, rfl⟩
  rw [hG] at HL
  rw [hG]
  clear h hF hG hk hc hN hv hx hy hb
  go_enter Tryz.func49, Tryz.ntmps49
  go_wp2_with (first
    | (go_at_call 47; refine HF.out.mono ?_; rintro e w1 ⟨v, rfl, hR, h1⟩; have HR := Lib.hid hR; have HB := Lib.hid h1; clear hR h1)
    | (go_at_call 50; refine (HL.out _ _ HR.out.sl).mono ?_; rintro e w2 ⟨v2, rfl, hR, h1⟩; have HR2 := Lib.hid hR; have sz := HB.out.size; have HB := Lib.hid (chain HB.out h1); clear hR h1))
  go_ret
  exact ⟨_, rfl, Res.base HR2.out sz, HB.out⟩
end Bu
end Go.Proofs.YtbmglemjfodfhaaGreat
