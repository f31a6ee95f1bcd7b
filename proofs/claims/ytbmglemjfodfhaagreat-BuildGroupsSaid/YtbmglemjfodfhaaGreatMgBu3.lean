/- build: the picture's size, the picture ahead, the closures of Samples. | build.Samples: what its samples are; plain. | build.Samples: where it tells an error. -/
import Derived.Test.YtbmglemjfodfhaaGreatMgBk2
import Derived.Test.YtbmglemjfodfhaaGreatMgFet
import Derived.Test.YtbmglemjfodfhaaGreatMgLoopC
import Derived.Test.YtbmglemjfodfhaaGreatMgMc2
import Derived.Test.YtbmglemjfodfhaaGreatMgPa1
import Derived.Test.YtbmglemjfodfhaaGreatMgPaG
import Derived.Deep.DeepCutAuto
set_option linter.unusedVariables false
set_option linter.unusedSimpArgs false
namespace Go.Proofs.YtbmglemjfodfhaaGreat
open Go.RowKit
namespace Bu
open Bk Fr Pt Pa
abbrev sp (n g a : Int) : Value := .agg #[.int .i64 n, .int .i64 g, .int .i64 a]
def zS (n g a : Int) : Int := if cE n g a = 0 then zV n else 0
theorem cE_n {n g a : Int} (h : cE n g a = 0) : n = 0 ∨ n = 1 := (cE_cases n g a h).1
theorem size_any (n g a : Int) (w : World) :
    Calls Tryz.prog 44 #[sp n g a] w fun e w' => e = .returned (.tuple #[.int .i64 (zS n g a), .int .i64 (cE n g a)]) ∧ Below w.heap.size w w' := by
  have HC := Lib.hid (fun V => Corner_any n g a V)
  have HB := Lib.hid ((Below.refl w.heap.size w).alloc (Nat.le_refl _) (.cells #[.int .i64 n, .int .i64 g, .int .i64 a] 28))
  have HA := Lib.hid (At.new w #[.int .i64 n, .int .i64 g, .int .i64 a] 28)
  have HS := Lib.hid (fun V => Size_any n V)
  have HN := Lib.hid (@cE_n n g a)
  have HZ : zS n g a = if cE n g a = 0 then zV n else 0 := rfl
  rw [HZ]
  clear HZ
  obtain ⟨E, hE⟩ : ∃ E, cE n g a = E := ⟨_, rfl⟩
  obtain ⟨X, hX⟩ : ∃ X, cX n g a = X := ⟨_, rfl⟩
  obtain ⟨Y, hY⟩ : ∃ Y, cY n g a = Y := ⟨_, rfl⟩
  rw [hE, hX, hY] at HC
  rw [hE] at HN
  rw [hE]
  clear hE hX hY
  by_cases h0 : E = 0
  · rw [if_pos h0]
    have t1 : (E != 0) = false := by simp [h0]
    have hn := HN.out h0
    have e1 : fE n = 0 := by rcases hn with rfl | rfl <;> rfl
    rw [e1] at HS
    have H0 := Lib.hid h0
    clear h0 hn e1 HN
    go_enter Tryz.func44, Tryz.ntmps44
    go_wp2_with (first
      | (go_at_call 86; refine (HC.out _).mono ?_; rintro e w1 ⟨rfl, h1⟩; have HB := Lib.hid (chain HB.out h1); have HA := Lib.hid (HA.out.below h1); have k0 := HA.out.cell 0 _ rfl; clear h1)
      | (go_at_call 73; refine (HS.out _).mono ?_; rintro e w2 ⟨rfl, rfl⟩))
    go_ret2
    exact ⟨by rw [H0.out]; rfl, HB.out⟩
  · rw [if_neg h0]
    have t1 : (E != 0) = true := by simp [h0]
    clear h0
    go_enter Tryz.func44, Tryz.ntmps44
    go_wp2_with (first
      | (go_at_call 86; refine (HC.out _).mono ?_; rintro e w1 ⟨rfl, h1⟩; have HB := Lib.hid (chain HB.out h1); clear h1))
    go_ret2
    exact ⟨rfl, HB.out⟩
def aN (N : Nat) (n : Int) : Nat := if N = 0 then gryN n else N
def aF (N : Nat) (f : Nat → Int) : Nat → Int := if N = 0 then fun _ => 128 else f
theorem ahead_any (a : Option Addr) (N c : Nat) (f : Nat → Int) (n : Int) (w : World) (hs : Sl .u8 w (.slice a N c) N f) :
    Calls Tryz.prog 46 #[.slice a N c, .int .i64 n] w fun e w' => ∃ v, e = .returned v ∧ Sl .u8 w' v (aN N n) (aF N f) ∧ (v = .slice a N c ∨ Res .u8 w.heap.size w' v (aN N n) (aF N f)) ∧ Below w.heap.size w w' := by
  have HS := Lib.hid hs
  clear hs
  by_cases h0 : N = 0
  · have e1 : aN N n = gryN n := if_pos h0
    have e2 : aF N f = fun _ => 128 := if_pos h0
    rw [e1, e2]
    subst h0
    have HG := Lib.hid (fun V => Grey_any n V)
    clear e1 e2
    go_enter Tryz.func46, Tryz.ntmps46
    go_wp2_with (go_at_call 30; refine (HG.out _).mono ?_; rintro e w1 ⟨v, rfl, hR, h1⟩; have HB := Lib.hid h1; have HR := Lib.hid hR; clear h1 hR)
    go_ret
    exact ⟨v, rfl, HR.out.sl, .inr HR.out, HB.out⟩
  · have e1 : aN N n = N := if_neg h0
    have e2 : aF N f = f := if_neg h0
    rw [e1, e2]
    have t1 : ((N : Int) == 0) = false := by simp; omega
    clear e1 e2 h0
    go_enter Tryz.func46, Tryz.ntmps46
    go_wp2_with fail
    go_ret
    exact ⟨_, rfl, HS.out, .inl rfl, Below.refl _ _⟩
theorem black_any (k : Int) (w : World) :
    Calls Tryz.prog 51 #[.int .i64 k] w fun e w' => ∃ v, e = .returned v ∧ Res .u8 w.heap.size w' v 64 (fun _ => 0) ∧ Below w.heap.size w w' := by
  obtain ⟨i0, hi, hz0, hz1, hz2⟩ := info_parts info_byte
  go_enter Tryz.func51, Tryz.ntmps51
  go_wp2_with (refine wpList_make_full w rfl _ _ 30 rfl w.heap.size 5 i0 (.int .u8 0) 1 Tryz.underlying30 hi hz0 hz1 .i64 .i64 _ _ 64 rfl rfl rfl rfl (by rw [hz2]; omega) (by unfold maxLen; omega) (Nat.le_refl _) ?_; intro w1 hown hgr; have HA := Lib.hid (made_sl hown); have HB := Lib.hid ((Below.refl w.heap.size w).grown hgr (Nat.le_refl _) (fun _ e => by cases e)); clear hown hgr)
  go_ret
  exact ⟨_, rfl, HA.out, HB.out⟩
theorem wf_small {x : Int} (h : -15 ≤ x ∧ x ≤ 15) : (Lit.int .i64 x).wf = true := by
  simp only [Lit.wf, Bool.and_eq_true, decide_eq_true_eq]
  have h1 : IntKind.i64.min = -9223372036854775808 := by decide
  have h2 : IntKind.i64.max = 9223372036854775807 := by decide
  omega
structure Sees (V : World) (p4 p5 p6 : Nat) (n g a : Int) (ad kd qt x y pt : Int) (vb vf : Value) (N : Nat) (f : Nat → Int) : Prop where
  fr : At V p4 #[vf] 30
  s : At V p5 #[.int .i64 n, .int .i64 g, .int .i64 a] 28
  m : At V p6 #[.int .i64 ad, .int .i64 kd, .int .i64 qt, .int .i64 x, .int .i64 y, .int .i64 pt, vb] 24
  pic : Sl .u8 V vf N f
theorem Sees.below {V V' : World} {p4 p5 p6 : Nat} {n g a ad kd qt x y pt : Int} {vb vf : Value} {N : Nat} {f : Nat → Int} (h : Sees V p4 p5 p6 n g a ad kd qt x y pt vb vf N f) (hb : Below V.heap.size V V') : Sees V' p4 p5 p6 n g a ad kd qt x y pt vb vf N f :=
  ⟨h.fr.below hb, h.s.below hb, h.m.below hb, h.pic.below hb⟩
theorem fetched_any (k : Int) (p4 p5 p6 : Nat) (n g a ad kd qt x y pt : Int) (vb vf : Value) (N : Nat) (f : Nat → Int) (w : World) (h : Sees w p4 p5 p6 n g a ad kd qt x y pt vb vf N f)
    (hk : 1 ≤ k ∧ k ≤ 6) (hc : cE n g a = 0) (hN : (N : Int) = zV n) (hv : Mo.vE n g a x y = 0) (hx : -15 ≤ x ∧ x ≤ 15) (hy : -15 ≤ y ∧ y ≤ 15) :
    Calls Tryz.prog 47 #[.int .i64 k, .pointer (some ⟨p4, 0, none⟩), .pointer (some ⟨p5, 0, none⟩), .pointer (some ⟨p6, 0, none⟩)] w fun e w' => ∃ v, e = .returned v ∧ Res .u8 w.heap.size w' v 64 (Mo.fetF f n g a k x y) ∧ Below w.heap.size w w' := by
  have HF := Lib.hid (Mo.Fetch_any vf N f n g a k x y w h.pic (wf_small hx) (wf_small hy))
  have e0 : Mo.fetE N n g a k x y = 0 := by unfold Mo.fetE; rw [if_neg (by omega), if_neg (by omega), if_neg (by omega), hv]
  rw [e0, show Mo.fetN N n g a k x y = 64 from if_pos e0] at HF
  obtain ⟨F, hF⟩ : ∃ F, Mo.fetF f n g a k x y = F := ⟨_, rfl⟩
  rw [hF] at HF
  rw [hF]
  have c4 := h.fr.cell 0 _ rfl
  have s0 := h.s.cell 0 _ rfl
  have s1 := h.s.cell 1 _ rfl
  have s2 := h.s.cell 2 _ rfl
  have m3 := h.m.cell 3 _ rfl
  have m4 := h.m.cell 4 _ rfl
  obtain ⟨fa, fc, hvf, _, _, _⟩ := h.pic
  subst hvf
  clear h e0 hF hk hc hN hv hx hy
  go_enter Tryz.func47, Tryz.ntmps47
  go_wp2_with (go_at_call 48; refine HF.out.mono ?_; rintro e w1 ⟨v, rfl, hR, h1⟩; have HR := Lib.hid hR; have HB := Lib.hid h1; clear hR h1)
  go_ret
  exact ⟨_, rfl, HR.out, HB.out⟩
theorem softened_any (k : Int) (p15 p4 p5 p6 : Nat) (n g a ad kd qt x y pt : Int) (vb vf : Value) (N : Nat) (f : Nat → Int) (w : World) (h : Sees w p4 p5 p6 n g a ad kd qt x y pt vb vf N f)
    (h15 : w.cell? ⟨p15, 0, none⟩ = some (.func (.func 47) #[] #[.pointer (some ⟨p4, 0, none⟩), .pointer (some ⟨p5, 0, none⟩), .pointer (some ⟨p6, 0, none⟩)]))
    (hk : 1 ≤ k ∧ k ≤ 6) (hc : cE n g a = 0) (hN : (N : Int) = zV n) (hv : Mo.vE n g a x y = 0) (hx : -15 ≤ x ∧ x ≤ 15) (hy : -15 ≤ y ∧ y ≤ 15) (hb : ∀ i, 0 ≤ Mo.fetF f n g a k x y i ∧ Mo.fetF f n g a k x y i ≤ 255) :
    Calls Tryz.prog 49 #[.int .i64 k, .pointer (some ⟨p15, 0, none⟩)] w fun e w' => ∃ v, e = .returned v ∧ Res .u8 w.heap.size w' v 64 (Lo.filt (Mo.fetF f n g a k x y)) ∧ Below w.heap.size w w' := by
  have HF := Lib.hid (fetched_any k p4 p5 p6 n g a ad kd qt x y pt vb vf N f w h hk hc hN hv hx hy)
  obtain ⟨F, hF⟩ : ∃ F, Mo.fetF f n g a k x y = F := ⟨_, rfl⟩
  rw [hF] at HF hb
  rw [hF]
  have HL := Lib.hid (fun V v (hs : Sl .u8 V v 64 F) => Lo.Filter_any v 64 F V hs hb)
  unfold Lo.Filters at HL
  rw [show Lo.fE 64 = 0 from rfl, show Lo.fN 64 = 64 from rfl] at HL
  obtain ⟨G, hG⟩ : ∃ G, Lo.filt F = G := ⟨_, rfl⟩
  rw [hG] at HL
  rw [hG]
  clear h hF hG hk hc hN hv hx hy hb
  go_enter Tryz.func49, Tryz.ntmps49
  go_wp2_with (first
    | (go_at_call 47; refine HF.out.mono ?_; rintro e w1 ⟨v, rfl, hR, h1⟩; have HR := Lib.hid hR; have HB := Lib.hid h1; clear hR h1)
    | (go_at_call 50; refine (HL.out _ _ HR.out.sl).mono ?_; rintro e w2 ⟨v2, rfl, hR, h1⟩; have HR2 := Lib.hid hR; have sz := HB.out.size; have HB := Lib.hid (chain HB.out h1); clear hR h1))
  go_ret
  exact ⟨_, rfl, Res.base HR2.out sz, HB.out⟩
end Bu
end Go.Proofs.YtbmglemjfodfhaaGreat
namespace Go.Proofs.YtbmglemjfodfhaaGreat
open Go.RowKit
namespace Bu
open Bk Fr Pt Kd
def pP (M : MB) (n g a : Int) (f : Nat → Int) (i : Nat) : Nat → Int :=
  if pI M.kd = true then fun _ => 0 else if pF M.kd = true then Lo.filt (Mo.fetF f n g a ((i : Int) + 1) M.x M.y) else Mo.fetF f n g a ((i : Int) + 1) M.x M.y
def jj (pt : Int) (i : Nat) : Nat := (cntP pt i).toNat
def qq (M : MB) (q : Int) : Int := if pQ M.kd = true then M.qt else q
def rR (M : MB) (q : Int) (i : Nat) : Nat → Int := Co.invC (wF (M.dc (jj M.pt i)) (M.nn (jj M.pt i)) (M.r (jj M.pt i)) (M.l (jj M.pt i)) (pI M.kd) (qq M q))
def smp (M : MB) (n g a : Int) (f : Nat → Int) (q : Int) (i : Nat) : Nat → Int := if hasP M.pt ((i : Int) + 1) = true then Pa.addF (pP M n g a f i) (rR M q i) else pP M n g a f i
def smE (M : MB) (n g a : Int) (N : Nat) (q : Int) : Int :=
  if cE n g a ≠ 0 then cE n g a else if (0 < N ∧ (N : Int) ≠ zV n) ∨ M.e ≠ 0 ∨ M.ad ≠ a then 2 else if q < 1 ∨ 31 < q then 3 else if pV M.kd = true ∧ Mo.vE n g a M.x M.y ≠ 0 then Mo.vE n g a M.x M.y else 0
def blk (v : Value) : Nat := (Value.ownBlock v).getD 0
def Six (B : Nat) (w : World) (v : Value) (S : Nat → Nat → Int) : Prop :=
  ∃ (g c : Nat) (V : Nat → Value), v = .slice (some ⟨g, 0, none⟩) 6 c ∧ B ≤ g ∧ g < w.heap.size ∧ 6 ≤ c ∧ c ≤ maxLen ∧ ∀ i, i < 6 → w.cell? ⟨g, i, none⟩ = some (V i) ∧ Res .u8 B w (V i) 64 (S i) ∧ ∀ j, j < i → blk (V j) < blk (V i)
theorem ok_parts {M : MB} (h : M.e = 0) : M.bad1 = false ∧ M.bad2 = false ∧ M.okBs := by
  unfold MB.e at h
  by_cases h1 : M.bad1 = true
  · rw [if_pos h1] at h; exact absurd h (by decide)
  · rw [if_neg h1] at h
    by_cases h2 : M.bad2 = true
    · rw [if_pos h2] at h; exact absurd h (by decide)
    · rw [if_neg h2] at h
      by_cases h3 : M.okBs
      · exact ⟨by simpa using h1, by simpa using h2, h3⟩
      · rw [if_neg h3] at h; exact absurd h (by decide)
theorem ok_xy {M : MB} (h : M.e = 0) : (-15 ≤ M.x ∧ M.x ≤ 15) ∧ (-15 ≤ M.y ∧ M.y ≤ 15) ∧ (pV M.kd = false → M.x = 0 ∧ M.y = 0) ∧ kOk M.kd = true ∧ 1 ≤ M.ad ∧ M.ad ≤ 33 := by
  have h1 := (ok_parts h).1
  unfold MB.bad1 at h1
  simp only [Bool.or_eq_false_iff, Bool.not_eq_false', Bool.and_eq_false_iff, decide_eq_false_iff_not, bne_eq_false_iff_eq] at h1
  obtain ⟨⟨⟨⟨⟨k, a1⟩, a2⟩, x⟩, y⟩, v⟩ := h1
  unfold prt at x y
  refine ⟨of_decide_eq_true x, of_decide_eq_true y, fun hv => ?_, ?_, by omega, by omega⟩
  · rcases v with v | v
    · rw [hv] at v; cases v
    · exact v
  · unfold kE at k
    by_cases hk : kOk M.kd = true
    · exact hk
    · rw [if_neg hk] at k; exact absurd k (by decide)
theorem ok_q {M : MB} (h : M.e = 0) (hq : pQ M.kd = true) : 1 ≤ M.qt ∧ M.qt ≤ 31 := by
  have h2 := (ok_parts h).2.1
  unfold MB.bad2 at h2
  simp only [Bool.or_eq_false_iff, Bool.not_eq_false'] at h2
  obtain ⟨⟨⟨⟨⟨k, _⟩, _⟩, _⟩, _⟩, _⟩ := h2
  unfold MB.qok at k
  rw [if_pos hq] at k
  simpa using k
theorem ok_m {M : MB} (h : M.e = 0) : (M.m : Int) = cntP M.pt 6 := by
  have h2 := (ok_parts h).2.1
  unfold MB.bad2 at h2
  simp only [Bool.or_eq_false_iff, bne_eq_false_iff_eq] at h2
  exact h2.2
theorem cnt_mono (p : Int) : ∀ k d, cntP p k ≤ cntP p (k + d)
  | _, 0 => Int.le_refl _
  | k, d + 1 => by
    have := cnt_mono p k d
    show _ ≤ cntP p (k + d) + (if hasP p ((k + d : Nat) + 1 : Int) then 1 else 0)
    split <;> omega
theorem jj_step (p : Int) (i : Nat) (h : hasP p ((i : Int) + 1) = true) : jj p (i + 1) = jj p i + 1 := by
  have := cntP_bd p i
  unfold jj
  rw [show cntP p (i + 1) = cntP p i + 1 by show cntP p i + (if hasP p ((i : Int) + 1) then 1 else 0) = _; rw [if_pos h]]
  omega
theorem jj_stay (p : Int) (i : Nat) (h : hasP p ((i : Int) + 1) = false) : jj p (i + 1) = jj p i := by
  unfold jj
  rw [show cntP p (i + 1) = cntP p i by show cntP p i + (if hasP p ((i : Int) + 1) then 1 else 0) = _; rw [h]; simp]
theorem jj_lt {M : MB} (h : M.e = 0) (i : Nat) (hi : i < 6) (hh : hasP M.pt ((i : Int) + 1) = true) : jj M.pt i < M.m := by
  have h1 := ok_m h
  have h2 := jj_step M.pt i hh
  have h3 := cnt_mono M.pt (i + 1) (6 - (i + 1))
  rw [show i + 1 + (6 - (i + 1)) = 6 by omega] at h3
  have h4 := cntP_bd M.pt (i + 1)
  unfold jj at *
  omega
theorem v00 {n g a : Int} (hc : cE n g a = 0) : Mo.vE n g a 0 0 = 0 := by
  have hX := cX_bd n g a hc
  have hY := cY_bd n g a hc
  unfold Mo.vE
  rw [if_neg (by omega), if_neg (by omega), if_neg (by omega)]
theorem fetF_bd {f : Nat → Int} (hf : ∀ i, 0 ≤ f i ∧ f i ≤ 255) (n g a k x y : Int) (i : Nat) : 0 ≤ Mo.fetF f n g a k x y i ∧ Mo.fetF f n g a k x y i ≤ 255 := by
  unfold Mo.fetF
  exact hf _
theorem pP_bd (M : MB) (n g a : Int) {f : Nat → Int} (hf : ∀ i, 0 ≤ f i ∧ f i ≤ 255) (i j : Nat) : 0 ≤ pP M n g a f i j ∧ pP M n g a f i j ≤ 255 := by
  unfold pP
  split
  · show (0 : Int) ≤ 0 ∧ (0 : Int) ≤ 255; omega
  · split
    · exact Lo.filt_bd _ (fun t => fetF_bd hf _ _ _ _ _ _ t) j
    · exact fetF_bd hf _ _ _ _ _ _ j
theorem inv_small (f : Nat → Int) (h : Co.okV f 64 = true) (i : Nat) (hi : i < 64) : -100000 ≤ Co.invC f i ∧ Co.invC f i ≤ 100000 := by
  have := Co.inv_bd f h i hi
  unfold Co.invC; omega
theorem qq_ok {M : MB} {q : Int} (h : M.e = 0) (h1 : ¬ (q < 1 ∨ 31 < q)) : 1 ≤ qq M q ∧ qq M q ≤ 31 := by
  unfold qq
  by_cases hq : pQ M.kd = true
  · rw [if_pos hq]; exact ok_q h hq
  · rw [if_neg hq]; omega
theorem Bsl.head {w : World} {v : Value} {N : Nat} {dc : Nat → Int} {q : Nat → Option Addr} {nn cc : Nat → Nat} {r l : Nat → Nat → Int} (h : Bsl w v (N + 1) dc q nn cc r l) :
    ∃ b o c, v = .slice (some ⟨b, o, none⟩) (N + 1) c ∧ N + 1 ≤ c ∧ c ≤ maxLen ∧ w.cell? ⟨b, o, none⟩ = some (.int .i64 (dc 0)) ∧ w.cell? ⟨b, o + 1, none⟩ = some (.slice (q 0) (nn 0) (cc 0)) ∧ Pl w (.slice (q 0) (nn 0) (cc 0)) (nn 0) (r 0) (l 0) ∧ nn 0 ≤ 1000
      ∧ ∀ v', v' = sliced (some ⟨b, o, none⟩) 1 (N + 1) c 2 → Bsl w v' N (fun t => dc (t + 1)) (fun t => q (t + 1)) (fun t => nn (t + 1)) (fun t => cc (t + 1)) (fun t => r (t + 1)) (fun t => l (t + 1)) := by
  obtain ⟨a, c, rfl, h1, h2, h3⟩ := h
  rcases h3 with h3 | ⟨b, o, rfl, h4⟩
  · omega
  · obtain ⟨c1, c2, c3, c4⟩ := h4 0 (by omega)
    refine ⟨b, o, c, rfl, h1, h2, by simpa using c1, by simpa using c2, c3, c4, ?_⟩
    rintro v' rfl
    refine ⟨_, c - 1, by unfold sliced; rw [show N + 1 - 1 = N by omega], by omega, by omega, ?_⟩
    by_cases hN : N = 0
    · exact .inl hN
    · refine .inr ⟨b, o + 2, by rw [if_neg (by omega)]; simp [Addr.add], fun j hj => ?_⟩
      obtain ⟨d1, d2, d3, d4⟩ := h4 (j + 1) (by omega)
      rw [show o + (j + 1) * 2 = o + 2 + j * 2 by omega] at d1
      rw [show o + (j + 1) * 2 + 1 = o + 2 + j * 2 + 1 by omega] at d2
      exact ⟨d1, d2, d3, d4⟩
end Bu
end Go.Proofs.YtbmglemjfodfhaaGreat
namespace Go.Proofs.YtbmglemjfodfhaaGreat
open Go.RowKit
namespace Bu
open Bk Fr Pt Kd
theorem At.set0 {V : World} {B : Nat} {u v : Value} {t : TypeId} (h : At V B #[u] t) : At (V.setCell ⟨B, 0, none⟩ v) B #[v] t := ob_set h 0 v
section
set_option maxRecDepth 100000
set_option maxHeartbeats 4000000
variable (M : MB) (vb : Value) (fa : Option Addr) (N fc : Nat) (f : Nat → Int) (n g a q : Int) (w : World)
include M vb fa N fc n g a q w
theorem smp_no1 (hc : cE n g a ≠ 0) :
    Calls Tryz.prog 15 #[.slice fa N fc, sp n g a, mv M vb, .int .i64 q] w fun e w' => e = .returned (.tuple #[.slice none 0 0, .int .i64 (cE n g a)]) ∧ Below w.heap.size w w' := by
  have HS := Lib.hid (fun V => size_any n g a V)
  obtain ⟨E, hE⟩ : ∃ E, cE n g a = E := ⟨_, rfl⟩
  obtain ⟨Z, hZ⟩ : ∃ Z, zS n g a = Z := ⟨_, rfl⟩
  rw [hE, hZ] at HS
  rw [hE] at hc ⊢
  have t1 : (E != 0) = true := by simpa using hc
  clear hc hE hZ
  have HB := Lib.hid ((((Below.refl w.heap.size w).alloc (Nat.le_refl _) (.cells #[.slice fa N fc] 30)).alloc (by simp) (.cells #[.int .i64 n, .int .i64 g, .int .i64 a] 28)).alloc (by simp; omega) (.cells #[.int .i64 M.ad, .int .i64 M.kd, .int .i64 M.qt, .int .i64 M.x, .int .i64 M.y, .int .i64 M.pt, vb] 24))
  have H4 : Hid (At _ _ _ _) := Lib.hid (((At.new w #[.slice fa N fc] 30).below ((Below.refl _ _).alloc (Nat.le_refl _) (.cells #[.int .i64 n, .int .i64 g, .int .i64 a] 28))).below ((Below.refl _ _).alloc (Nat.le_refl _) (.cells #[.int .i64 M.ad, .int .i64 M.kd, .int .i64 M.qt, .int .i64 M.x, .int .i64 M.y, .int .i64 M.pt, vb] 24)))
  have H5 : Hid (At _ _ _ _) := Lib.hid ((At.new (w.alloc (.cells #[.slice fa N fc] 30)) #[.int .i64 n, .int .i64 g, .int .i64 a] 28).below ((Below.refl _ _).alloc (Nat.le_refl _) (.cells #[.int .i64 M.ad, .int .i64 M.kd, .int .i64 M.qt, .int .i64 M.x, .int .i64 M.y, .int .i64 M.pt, vb] 24)))
  have H6 : Hid (At _ _ _ _) := Lib.hid (At.new ((w.alloc (.cells #[.slice fa N fc] 30)).alloc (.cells #[.int .i64 n, .int .i64 g, .int .i64 a] 28)) #[.int .i64 M.ad, .int .i64 M.kd, .int .i64 M.qt, .int .i64 M.x, .int .i64 M.y, .int .i64 M.pt, vb] 24)
  simp only [World.size_alloc] at H5 H6
  have k0 := H5.out.cell 0 _ rfl
  have k1 := H5.out.cell 1 _ rfl
  have k2 := H5.out.cell 2 _ rfl
  go_enter Tryz.func15, Tryz.ntmps15
  go_wp2_with fail
  refine (HS.out _).mono ?_
  rintro e w1 ⟨rfl, b1⟩
  have H4 := Lib.hid (H4.out.below b1)
  have H5 := Lib.hid (H5.out.below b1)
  have H6 := Lib.hid (H6.out.below b1)
  have HB := Lib.hid (chain HB.out b1)
  clear b1 H4 H5 H6 k0 k1 k2
  go_wp2_with fail
  go_ret2
  exact ⟨rfl, HB.out⟩
theorem smp_no2 (hc : cE n g a = 0) (h0 : 0 < N) (hN : (N : Int) ≠ zV n) :
    Calls Tryz.prog 15 #[.slice fa N fc, sp n g a, mv M vb, .int .i64 q] w fun e w' => e = .returned (.tuple #[.slice none 0 0, .int .i64 2]) ∧ Below w.heap.size w w' := by
  have HS := Lib.hid (fun V => size_any n g a V)
  rw [hc, show zS n g a = zV n from if_pos hc] at HS
  obtain ⟨Z, hZ⟩ : ∃ Z, zV n = Z := ⟨_, rfl⟩
  rw [hZ] at HS hN
  have t1 : ((N : Int) != Z) = true := by simpa using hN
  have t2 : (0 : Int) < (N : Int) := by omega
  clear hc hZ hN h0
  have HB := Lib.hid ((((Below.refl w.heap.size w).alloc (Nat.le_refl _) (.cells #[.slice fa N fc] 30)).alloc (by simp) (.cells #[.int .i64 n, .int .i64 g, .int .i64 a] 28)).alloc (by simp; omega) (.cells #[.int .i64 M.ad, .int .i64 M.kd, .int .i64 M.qt, .int .i64 M.x, .int .i64 M.y, .int .i64 M.pt, vb] 24))
  have H4 : Hid (At _ _ _ _) := Lib.hid (((At.new w #[.slice fa N fc] 30).below ((Below.refl _ _).alloc (Nat.le_refl _) (.cells #[.int .i64 n, .int .i64 g, .int .i64 a] 28))).below ((Below.refl _ _).alloc (Nat.le_refl _) (.cells #[.int .i64 M.ad, .int .i64 M.kd, .int .i64 M.qt, .int .i64 M.x, .int .i64 M.y, .int .i64 M.pt, vb] 24)))
  have H5 : Hid (At _ _ _ _) := Lib.hid ((At.new (w.alloc (.cells #[.slice fa N fc] 30)) #[.int .i64 n, .int .i64 g, .int .i64 a] 28).below ((Below.refl _ _).alloc (Nat.le_refl _) (.cells #[.int .i64 M.ad, .int .i64 M.kd, .int .i64 M.qt, .int .i64 M.x, .int .i64 M.y, .int .i64 M.pt, vb] 24)))
  have H6 : Hid (At _ _ _ _) := Lib.hid (At.new ((w.alloc (.cells #[.slice fa N fc] 30)).alloc (.cells #[.int .i64 n, .int .i64 g, .int .i64 a] 28)) #[.int .i64 M.ad, .int .i64 M.kd, .int .i64 M.qt, .int .i64 M.x, .int .i64 M.y, .int .i64 M.pt, vb] 24)
  simp only [World.size_alloc] at H5 H6
  have k0 := H5.out.cell 0 _ rfl
  have k1 := H5.out.cell 1 _ rfl
  have k2 := H5.out.cell 2 _ rfl
  go_enter Tryz.func15, Tryz.ntmps15
  go_wp2_with fail
  refine (HS.out _).mono ?_
  rintro e w1 ⟨rfl, b1⟩
  have H4 := Lib.hid (H4.out.below b1)
  have H5 := Lib.hid (H5.out.below b1)
  have H6 := Lib.hid (H6.out.below b1)
  have HB := Lib.hid (chain HB.out b1)
  have c4 := H4.out.cell 0 _ rfl
  clear b1 H4 H5 H6 k0 k1 k2
  go_wp2_with fail
  go_ret2
  exact ⟨rfl, HB.out⟩
theorem smp_no3_0 (hc : cE n g a = 0) (hN : N = 0) (hb : M.at w vb) (he : M.e ≠ 0) :
    Calls Tryz.prog 15 #[.slice fa N fc, sp n g a, mv M vb, .int .i64 q] w fun e w' => e = .returned (.tuple #[.slice none 0 0, .int .i64 2]) ∧ Below w.heap.size w w' := by
  have HS := Lib.hid (fun V => size_any n g a V)
  rw [hc, show zS n g a = zV n from if_pos hc] at HS
  obtain ⟨Z, hZ⟩ : ∃ Z, zV n = Z := ⟨_, rfl⟩
  rw [hZ] at HS
  subst hN
  clear hZ
  have HA := Lib.hid hb
  have HC := Lib.hid (fun V h => mCheck_any M vb V h)
  obtain ⟨E, hE⟩ : ∃ E, M.e = E := ⟨_, rfl⟩
  rw [hE] at HC he
  have t3 : (E != 0) = true := by simpa using he
  clear hE he hb hc
  have HB := Lib.hid ((((Below.refl w.heap.size w).alloc (Nat.le_refl _) (.cells #[.slice fa 0 fc] 30)).alloc (by simp) (.cells #[.int .i64 n, .int .i64 g, .int .i64 a] 28)).alloc (by simp; omega) (.cells #[.int .i64 M.ad, .int .i64 M.kd, .int .i64 M.qt, .int .i64 M.x, .int .i64 M.y, .int .i64 M.pt, vb] 24))
  have H4 : Hid (At _ _ _ _) := Lib.hid (((At.new w #[.slice fa 0 fc] 30).below ((Below.refl _ _).alloc (Nat.le_refl _) (.cells #[.int .i64 n, .int .i64 g, .int .i64 a] 28))).below ((Below.refl _ _).alloc (Nat.le_refl _) (.cells #[.int .i64 M.ad, .int .i64 M.kd, .int .i64 M.qt, .int .i64 M.x, .int .i64 M.y, .int .i64 M.pt, vb] 24)))
  have H5 : Hid (At _ _ _ _) := Lib.hid ((At.new (w.alloc (.cells #[.slice fa 0 fc] 30)) #[.int .i64 n, .int .i64 g, .int .i64 a] 28).below ((Below.refl _ _).alloc (Nat.le_refl _) (.cells #[.int .i64 M.ad, .int .i64 M.kd, .int .i64 M.qt, .int .i64 M.x, .int .i64 M.y, .int .i64 M.pt, vb] 24)))
  have H6 : Hid (At _ _ _ _) := Lib.hid (At.new ((w.alloc (.cells #[.slice fa 0 fc] 30)).alloc (.cells #[.int .i64 n, .int .i64 g, .int .i64 a] 28)) #[.int .i64 M.ad, .int .i64 M.kd, .int .i64 M.qt, .int .i64 M.x, .int .i64 M.y, .int .i64 M.pt, vb] 24)
  simp only [World.size_alloc] at H5 H6
  have k0 := H5.out.cell 0 _ rfl
  have k1 := H5.out.cell 1 _ rfl
  have k2 := H5.out.cell 2 _ rfl
  go_enter Tryz.func15, Tryz.ntmps15
  go_wp2_with fail
  refine (HS.out _).mono ?_
  rintro e w1 ⟨rfl, b1⟩
  have H4 := Lib.hid (H4.out.below b1)
  have H5 := Lib.hid (H5.out.below b1)
  have H6 := Lib.hid (H6.out.below b1)
  have HB := Lib.hid (chain HB.out b1)
  have HA := Lib.hid ((HA.out.below HB.out))
  have c4 := H4.out.cell 0 _ rfl
  have k0 := H6.out.cell 0 _ rfl
  have k1 := H6.out.cell 1 _ rfl
  have k2 := H6.out.cell 2 _ rfl
  have k3 := H6.out.cell 3 _ rfl
  have k4 := H6.out.cell 4 _ rfl
  have k5 := H6.out.cell 5 _ rfl
  have k6 := H6.out.cell 6 _ rfl
  clear b1
  go_wp2_with fail
  refine (HC.out _ HA.out).mono ?_
  rintro e w2 ⟨rfl, b2⟩
  have H5 := Lib.hid (H5.out.below b2)
  have H6 := Lib.hid (H6.out.below b2)
  have HB := Lib.hid (chain HB.out b2)
  clear b2 k0 k1 k2 k3 k4 k5 k6
  go_wp2_with fail
  go_ret2
  exact ⟨rfl, HB.out⟩
theorem smp_no3_1 (hc : cE n g a = 0) (h0 : 0 < N) (hN : (N : Int) = zV n) (hb : M.at w vb) (he : M.e ≠ 0) :
    Calls Tryz.prog 15 #[.slice fa N fc, sp n g a, mv M vb, .int .i64 q] w fun e w' => e = .returned (.tuple #[.slice none 0 0, .int .i64 2]) ∧ Below w.heap.size w w' := by
  have HS := Lib.hid (fun V => size_any n g a V)
  rw [hc, show zS n g a = zV n from if_pos hc] at HS
  obtain ⟨Z, hZ⟩ : ∃ Z, zV n = Z := ⟨_, rfl⟩
  rw [hZ] at HS hN
  have t1 : ((N : Int) != Z) = false := by simp [hN]
  have t2 : (0 : Int) < (N : Int) := by omega
  clear hN h0 hZ
  have HA := Lib.hid hb
  have HC := Lib.hid (fun V h => mCheck_any M vb V h)
  obtain ⟨E, hE⟩ : ∃ E, M.e = E := ⟨_, rfl⟩
  rw [hE] at HC he
  have t3 : (E != 0) = true := by simpa using he
  clear hE he hb hc
  have HB := Lib.hid ((((Below.refl w.heap.size w).alloc (Nat.le_refl _) (.cells #[.slice fa N fc] 30)).alloc (by simp) (.cells #[.int .i64 n, .int .i64 g, .int .i64 a] 28)).alloc (by simp; omega) (.cells #[.int .i64 M.ad, .int .i64 M.kd, .int .i64 M.qt, .int .i64 M.x, .int .i64 M.y, .int .i64 M.pt, vb] 24))
  have H4 : Hid (At _ _ _ _) := Lib.hid (((At.new w #[.slice fa N fc] 30).below ((Below.refl _ _).alloc (Nat.le_refl _) (.cells #[.int .i64 n, .int .i64 g, .int .i64 a] 28))).below ((Below.refl _ _).alloc (Nat.le_refl _) (.cells #[.int .i64 M.ad, .int .i64 M.kd, .int .i64 M.qt, .int .i64 M.x, .int .i64 M.y, .int .i64 M.pt, vb] 24)))
  have H5 : Hid (At _ _ _ _) := Lib.hid ((At.new (w.alloc (.cells #[.slice fa N fc] 30)) #[.int .i64 n, .int .i64 g, .int .i64 a] 28).below ((Below.refl _ _).alloc (Nat.le_refl _) (.cells #[.int .i64 M.ad, .int .i64 M.kd, .int .i64 M.qt, .int .i64 M.x, .int .i64 M.y, .int .i64 M.pt, vb] 24)))
  have H6 : Hid (At _ _ _ _) := Lib.hid (At.new ((w.alloc (.cells #[.slice fa N fc] 30)).alloc (.cells #[.int .i64 n, .int .i64 g, .int .i64 a] 28)) #[.int .i64 M.ad, .int .i64 M.kd, .int .i64 M.qt, .int .i64 M.x, .int .i64 M.y, .int .i64 M.pt, vb] 24)
  simp only [World.size_alloc] at H5 H6
  have k0 := H5.out.cell 0 _ rfl
  have k1 := H5.out.cell 1 _ rfl
  have k2 := H5.out.cell 2 _ rfl
  go_enter Tryz.func15, Tryz.ntmps15
  go_wp2_with fail
  refine (HS.out _).mono ?_
  rintro e w1 ⟨rfl, b1⟩
  have H4 := Lib.hid (H4.out.below b1)
  have H5 := Lib.hid (H5.out.below b1)
  have H6 := Lib.hid (H6.out.below b1)
  have HB := Lib.hid (chain HB.out b1)
  have HA := Lib.hid ((HA.out.below HB.out))
  have c4 := H4.out.cell 0 _ rfl
  have k0 := H6.out.cell 0 _ rfl
  have k1 := H6.out.cell 1 _ rfl
  have k2 := H6.out.cell 2 _ rfl
  have k3 := H6.out.cell 3 _ rfl
  have k4 := H6.out.cell 4 _ rfl
  have k5 := H6.out.cell 5 _ rfl
  have k6 := H6.out.cell 6 _ rfl
  clear b1
  go_wp2_with fail
  refine (HC.out _ HA.out).mono ?_
  rintro e w2 ⟨rfl, b2⟩
  have H5 := Lib.hid (H5.out.below b2)
  have H6 := Lib.hid (H6.out.below b2)
  have HB := Lib.hid (chain HB.out b2)
  clear b2 k0 k1 k2 k3 k4 k5 k6
  go_wp2_with fail
  go_ret2
  exact ⟨rfl, HB.out⟩
theorem smp_no4_0 (hc : cE n g a = 0) (hN : N = 0) (hb : M.at w vb) (he : M.e = 0) (ha : M.ad ≠ a) :
    Calls Tryz.prog 15 #[.slice fa N fc, sp n g a, mv M vb, .int .i64 q] w fun e w' => e = .returned (.tuple #[.slice none 0 0, .int .i64 2]) ∧ Below w.heap.size w w' := by
  have HS := Lib.hid (fun V => size_any n g a V)
  rw [hc, show zS n g a = zV n from if_pos hc] at HS
  obtain ⟨Z, hZ⟩ : ∃ Z, zV n = Z := ⟨_, rfl⟩
  rw [hZ] at HS
  subst hN
  clear hZ
  have HA := Lib.hid hb
  have HC := Lib.hid (fun V h => mCheck_any M vb V h)
  rw [he] at HC
  have t3 : (M.ad != a) = true := by simpa using ha
  clear he ha hb hc
  have HB := Lib.hid ((((Below.refl w.heap.size w).alloc (Nat.le_refl _) (.cells #[.slice fa 0 fc] 30)).alloc (by simp) (.cells #[.int .i64 n, .int .i64 g, .int .i64 a] 28)).alloc (by simp; omega) (.cells #[.int .i64 M.ad, .int .i64 M.kd, .int .i64 M.qt, .int .i64 M.x, .int .i64 M.y, .int .i64 M.pt, vb] 24))
  have H4 : Hid (At _ _ _ _) := Lib.hid (((At.new w #[.slice fa 0 fc] 30).below ((Below.refl _ _).alloc (Nat.le_refl _) (.cells #[.int .i64 n, .int .i64 g, .int .i64 a] 28))).below ((Below.refl _ _).alloc (Nat.le_refl _) (.cells #[.int .i64 M.ad, .int .i64 M.kd, .int .i64 M.qt, .int .i64 M.x, .int .i64 M.y, .int .i64 M.pt, vb] 24)))
  have H5 : Hid (At _ _ _ _) := Lib.hid ((At.new (w.alloc (.cells #[.slice fa 0 fc] 30)) #[.int .i64 n, .int .i64 g, .int .i64 a] 28).below ((Below.refl _ _).alloc (Nat.le_refl _) (.cells #[.int .i64 M.ad, .int .i64 M.kd, .int .i64 M.qt, .int .i64 M.x, .int .i64 M.y, .int .i64 M.pt, vb] 24)))
  have H6 : Hid (At _ _ _ _) := Lib.hid (At.new ((w.alloc (.cells #[.slice fa 0 fc] 30)).alloc (.cells #[.int .i64 n, .int .i64 g, .int .i64 a] 28)) #[.int .i64 M.ad, .int .i64 M.kd, .int .i64 M.qt, .int .i64 M.x, .int .i64 M.y, .int .i64 M.pt, vb] 24)
  simp only [World.size_alloc] at H5 H6
  have k0 := H5.out.cell 0 _ rfl
  have k1 := H5.out.cell 1 _ rfl
  have k2 := H5.out.cell 2 _ rfl
  go_enter Tryz.func15, Tryz.ntmps15
  go_wp2_with fail
  refine (HS.out _).mono ?_
  rintro e w1 ⟨rfl, b1⟩
  have H4 := Lib.hid (H4.out.below b1)
  have H5 := Lib.hid (H5.out.below b1)
  have H6 := Lib.hid (H6.out.below b1)
  have HB := Lib.hid (chain HB.out b1)
  have HA := Lib.hid ((HA.out.below HB.out))
  have c4 := H4.out.cell 0 _ rfl
  have k0 := H6.out.cell 0 _ rfl
  have k1 := H6.out.cell 1 _ rfl
  have k2 := H6.out.cell 2 _ rfl
  have k3 := H6.out.cell 3 _ rfl
  have k4 := H6.out.cell 4 _ rfl
  have k5 := H6.out.cell 5 _ rfl
  have k6 := H6.out.cell 6 _ rfl
  clear b1
  go_wp2_with fail
  refine (HC.out _ HA.out).mono ?_
  rintro e w2 ⟨rfl, b2⟩
  have H5 := Lib.hid (H5.out.below b2)
  have H6 := Lib.hid (H6.out.below b2)
  have HB := Lib.hid (chain HB.out b2)
  clear b2 k0 k1 k2 k3 k4 k5 k6
  have k0 := H6.out.cell 0 _ rfl
  have s2 := H5.out.cell 2 _ rfl
  go_wp2_with fail
  go_ret2
  exact ⟨rfl, HB.out⟩
theorem smp_no4_1 (hc : cE n g a = 0) (h0 : 0 < N) (hN : (N : Int) = zV n) (hb : M.at w vb) (he : M.e = 0) (ha : M.ad ≠ a) :
    Calls Tryz.prog 15 #[.slice fa N fc, sp n g a, mv M vb, .int .i64 q] w fun e w' => e = .returned (.tuple #[.slice none 0 0, .int .i64 2]) ∧ Below w.heap.size w w' := by
  have HS := Lib.hid (fun V => size_any n g a V)
  rw [hc, show zS n g a = zV n from if_pos hc] at HS
  obtain ⟨Z, hZ⟩ : ∃ Z, zV n = Z := ⟨_, rfl⟩
  rw [hZ] at HS hN
  have t1 : ((N : Int) != Z) = false := by simp [hN]
  have t2 : (0 : Int) < (N : Int) := by omega
  clear hN h0 hZ
  have HA := Lib.hid hb
  have HC := Lib.hid (fun V h => mCheck_any M vb V h)
  rw [he] at HC
  have t3 : (M.ad != a) = true := by simpa using ha
  clear he ha hb hc
  have HB := Lib.hid ((((Below.refl w.heap.size w).alloc (Nat.le_refl _) (.cells #[.slice fa N fc] 30)).alloc (by simp) (.cells #[.int .i64 n, .int .i64 g, .int .i64 a] 28)).alloc (by simp; omega) (.cells #[.int .i64 M.ad, .int .i64 M.kd, .int .i64 M.qt, .int .i64 M.x, .int .i64 M.y, .int .i64 M.pt, vb] 24))
  have H4 : Hid (At _ _ _ _) := Lib.hid (((At.new w #[.slice fa N fc] 30).below ((Below.refl _ _).alloc (Nat.le_refl _) (.cells #[.int .i64 n, .int .i64 g, .int .i64 a] 28))).below ((Below.refl _ _).alloc (Nat.le_refl _) (.cells #[.int .i64 M.ad, .int .i64 M.kd, .int .i64 M.qt, .int .i64 M.x, .int .i64 M.y, .int .i64 M.pt, vb] 24)))
  have H5 : Hid (At _ _ _ _) := Lib.hid ((At.new (w.alloc (.cells #[.slice fa N fc] 30)) #[.int .i64 n, .int .i64 g, .int .i64 a] 28).below ((Below.refl _ _).alloc (Nat.le_refl _) (.cells #[.int .i64 M.ad, .int .i64 M.kd, .int .i64 M.qt, .int .i64 M.x, .int .i64 M.y, .int .i64 M.pt, vb] 24)))
  have H6 : Hid (At _ _ _ _) := Lib.hid (At.new ((w.alloc (.cells #[.slice fa N fc] 30)).alloc (.cells #[.int .i64 n, .int .i64 g, .int .i64 a] 28)) #[.int .i64 M.ad, .int .i64 M.kd, .int .i64 M.qt, .int .i64 M.x, .int .i64 M.y, .int .i64 M.pt, vb] 24)
  simp only [World.size_alloc] at H5 H6
  have k0 := H5.out.cell 0 _ rfl
  have k1 := H5.out.cell 1 _ rfl
  have k2 := H5.out.cell 2 _ rfl
  go_enter Tryz.func15, Tryz.ntmps15
  go_wp2_with fail
  refine (HS.out _).mono ?_
  rintro e w1 ⟨rfl, b1⟩
  have H4 := Lib.hid (H4.out.below b1)
  have H5 := Lib.hid (H5.out.below b1)
  have H6 := Lib.hid (H6.out.below b1)
  have HB := Lib.hid (chain HB.out b1)
  have HA := Lib.hid ((HA.out.below HB.out))
  have c4 := H4.out.cell 0 _ rfl
  have k0 := H6.out.cell 0 _ rfl
  have k1 := H6.out.cell 1 _ rfl
  have k2 := H6.out.cell 2 _ rfl
  have k3 := H6.out.cell 3 _ rfl
  have k4 := H6.out.cell 4 _ rfl
  have k5 := H6.out.cell 5 _ rfl
  have k6 := H6.out.cell 6 _ rfl
  clear b1
  go_wp2_with fail
  refine (HC.out _ HA.out).mono ?_
  rintro e w2 ⟨rfl, b2⟩
  have H5 := Lib.hid (H5.out.below b2)
  have H6 := Lib.hid (H6.out.below b2)
  have HB := Lib.hid (chain HB.out b2)
  clear b2 k0 k1 k2 k3 k4 k5 k6
  have k0 := H6.out.cell 0 _ rfl
  have s2 := H5.out.cell 2 _ rfl
  go_wp2_with fail
  go_ret2
  exact ⟨rfl, HB.out⟩
theorem smp_no5_0 (hc : cE n g a = 0) (hN : N = 0) (hb : M.at w vb) (he : M.e = 0) (ha : M.ad = a) (hq : q < 1 ∨ 31 < q) :
    Calls Tryz.prog 15 #[.slice fa N fc, sp n g a, mv M vb, .int .i64 q] w fun e w' => e = .returned (.tuple #[.slice none 0 0, .int .i64 3]) ∧ Below w.heap.size w w' := by
  have HS := Lib.hid (fun V => size_any n g a V)
  rw [hc, show zS n g a = zV n from if_pos hc] at HS
  obtain ⟨Z, hZ⟩ : ∃ Z, zV n = Z := ⟨_, rfl⟩
  rw [hZ] at HS
  subst hN
  clear hZ
  have HA := Lib.hid hb
  have HC := Lib.hid (fun V h => mCheck_any M vb V h)
  rw [he] at HC
  have t3 : (M.ad != a) = false := by simp [ha]
  clear he ha hb hc
  have HB := Lib.hid ((((Below.refl w.heap.size w).alloc (Nat.le_refl _) (.cells #[.slice fa 0 fc] 30)).alloc (by simp) (.cells #[.int .i64 n, .int .i64 g, .int .i64 a] 28)).alloc (by simp; omega) (.cells #[.int .i64 M.ad, .int .i64 M.kd, .int .i64 M.qt, .int .i64 M.x, .int .i64 M.y, .int .i64 M.pt, vb] 24))
  have H4 : Hid (At _ _ _ _) := Lib.hid (((At.new w #[.slice fa 0 fc] 30).below ((Below.refl _ _).alloc (Nat.le_refl _) (.cells #[.int .i64 n, .int .i64 g, .int .i64 a] 28))).below ((Below.refl _ _).alloc (Nat.le_refl _) (.cells #[.int .i64 M.ad, .int .i64 M.kd, .int .i64 M.qt, .int .i64 M.x, .int .i64 M.y, .int .i64 M.pt, vb] 24)))
  have H5 : Hid (At _ _ _ _) := Lib.hid ((At.new (w.alloc (.cells #[.slice fa 0 fc] 30)) #[.int .i64 n, .int .i64 g, .int .i64 a] 28).below ((Below.refl _ _).alloc (Nat.le_refl _) (.cells #[.int .i64 M.ad, .int .i64 M.kd, .int .i64 M.qt, .int .i64 M.x, .int .i64 M.y, .int .i64 M.pt, vb] 24)))
  have H6 : Hid (At _ _ _ _) := Lib.hid (At.new ((w.alloc (.cells #[.slice fa 0 fc] 30)).alloc (.cells #[.int .i64 n, .int .i64 g, .int .i64 a] 28)) #[.int .i64 M.ad, .int .i64 M.kd, .int .i64 M.qt, .int .i64 M.x, .int .i64 M.y, .int .i64 M.pt, vb] 24)
  simp only [World.size_alloc] at H5 H6
  have k0 := H5.out.cell 0 _ rfl
  have k1 := H5.out.cell 1 _ rfl
  have k2 := H5.out.cell 2 _ rfl
  go_enter Tryz.func15, Tryz.ntmps15
  go_wp2_with fail
  refine (HS.out _).mono ?_
  rintro e w1 ⟨rfl, b1⟩
  have H4 := Lib.hid (H4.out.below b1)
  have H5 := Lib.hid (H5.out.below b1)
  have H6 := Lib.hid (H6.out.below b1)
  have HB := Lib.hid (chain HB.out b1)
  have HA := Lib.hid ((HA.out.below HB.out))
  have c4 := H4.out.cell 0 _ rfl
  have k0 := H6.out.cell 0 _ rfl
  have k1 := H6.out.cell 1 _ rfl
  have k2 := H6.out.cell 2 _ rfl
  have k3 := H6.out.cell 3 _ rfl
  have k4 := H6.out.cell 4 _ rfl
  have k5 := H6.out.cell 5 _ rfl
  have k6 := H6.out.cell 6 _ rfl
  clear b1
  go_wp2_with fail
  refine (HC.out _ HA.out).mono ?_
  rintro e w2 ⟨rfl, b2⟩
  have H5 := Lib.hid (H5.out.below b2)
  have H6 := Lib.hid (H6.out.below b2)
  have HB := Lib.hid (chain HB.out b2)
  clear b2 k0 k1 k2 k3 k4 k5 k6
  have k0 := H6.out.cell 0 _ rfl
  have s2 := H5.out.cell 2 _ rfl
  by_cases hq1 : q < 1
  · go_wp2_with fail
    go_ret2
    exact ⟨rfl, HB.out⟩
  · have hq2 : 31 < q := by omega
    go_wp2_with fail
    go_ret2
    exact ⟨rfl, HB.out⟩
theorem smp_no5_1 (hc : cE n g a = 0) (h0 : 0 < N) (hN : (N : Int) = zV n) (hb : M.at w vb) (he : M.e = 0) (ha : M.ad = a) (hq : q < 1 ∨ 31 < q) :
    Calls Tryz.prog 15 #[.slice fa N fc, sp n g a, mv M vb, .int .i64 q] w fun e w' => e = .returned (.tuple #[.slice none 0 0, .int .i64 3]) ∧ Below w.heap.size w w' := by
  have HS := Lib.hid (fun V => size_any n g a V)
  rw [hc, show zS n g a = zV n from if_pos hc] at HS
  obtain ⟨Z, hZ⟩ : ∃ Z, zV n = Z := ⟨_, rfl⟩
  rw [hZ] at HS hN
  have t1 : ((N : Int) != Z) = false := by simp [hN]
  have t2 : (0 : Int) < (N : Int) := by omega
  clear hN h0 hZ
  have HA := Lib.hid hb
  have HC := Lib.hid (fun V h => mCheck_any M vb V h)
  rw [he] at HC
  have t3 : (M.ad != a) = false := by simp [ha]
  clear he ha hb hc
  have HB := Lib.hid ((((Below.refl w.heap.size w).alloc (Nat.le_refl _) (.cells #[.slice fa N fc] 30)).alloc (by simp) (.cells #[.int .i64 n, .int .i64 g, .int .i64 a] 28)).alloc (by simp; omega) (.cells #[.int .i64 M.ad, .int .i64 M.kd, .int .i64 M.qt, .int .i64 M.x, .int .i64 M.y, .int .i64 M.pt, vb] 24))
  have H4 : Hid (At _ _ _ _) := Lib.hid (((At.new w #[.slice fa N fc] 30).below ((Below.refl _ _).alloc (Nat.le_refl _) (.cells #[.int .i64 n, .int .i64 g, .int .i64 a] 28))).below ((Below.refl _ _).alloc (Nat.le_refl _) (.cells #[.int .i64 M.ad, .int .i64 M.kd, .int .i64 M.qt, .int .i64 M.x, .int .i64 M.y, .int .i64 M.pt, vb] 24)))
  have H5 : Hid (At _ _ _ _) := Lib.hid ((At.new (w.alloc (.cells #[.slice fa N fc] 30)) #[.int .i64 n, .int .i64 g, .int .i64 a] 28).below ((Below.refl _ _).alloc (Nat.le_refl _) (.cells #[.int .i64 M.ad, .int .i64 M.kd, .int .i64 M.qt, .int .i64 M.x, .int .i64 M.y, .int .i64 M.pt, vb] 24)))
  have H6 : Hid (At _ _ _ _) := Lib.hid (At.new ((w.alloc (.cells #[.slice fa N fc] 30)).alloc (.cells #[.int .i64 n, .int .i64 g, .int .i64 a] 28)) #[.int .i64 M.ad, .int .i64 M.kd, .int .i64 M.qt, .int .i64 M.x, .int .i64 M.y, .int .i64 M.pt, vb] 24)
  simp only [World.size_alloc] at H5 H6
  have k0 := H5.out.cell 0 _ rfl
  have k1 := H5.out.cell 1 _ rfl
  have k2 := H5.out.cell 2 _ rfl
  go_enter Tryz.func15, Tryz.ntmps15
  go_wp2_with fail
  refine (HS.out _).mono ?_
  rintro e w1 ⟨rfl, b1⟩
  have H4 := Lib.hid (H4.out.below b1)
  have H5 := Lib.hid (H5.out.below b1)
  have H6 := Lib.hid (H6.out.below b1)
  have HB := Lib.hid (chain HB.out b1)
  have HA := Lib.hid ((HA.out.below HB.out))
  have c4 := H4.out.cell 0 _ rfl
  have k0 := H6.out.cell 0 _ rfl
  have k1 := H6.out.cell 1 _ rfl
  have k2 := H6.out.cell 2 _ rfl
  have k3 := H6.out.cell 3 _ rfl
  have k4 := H6.out.cell 4 _ rfl
  have k5 := H6.out.cell 5 _ rfl
  have k6 := H6.out.cell 6 _ rfl
  clear b1
  go_wp2_with fail
  refine (HC.out _ HA.out).mono ?_
  rintro e w2 ⟨rfl, b2⟩
  have H5 := Lib.hid (H5.out.below b2)
  have H6 := Lib.hid (H6.out.below b2)
  have HB := Lib.hid (chain HB.out b2)
  clear b2 k0 k1 k2 k3 k4 k5 k6
  have k0 := H6.out.cell 0 _ rfl
  have s2 := H5.out.cell 2 _ rfl
  by_cases hq1 : q < 1
  · go_wp2_with fail
    go_ret2
    exact ⟨rfl, HB.out⟩
  · have hq2 : 31 < q := by omega
    go_wp2_with fail
    go_ret2
    exact ⟨rfl, HB.out⟩
theorem smp_no6_0 (hc : cE n g a = 0) (hN : N = 0) (hb : M.at w vb) (he : M.e = 0) (ha : M.ad = a) (hq : ¬ (q < 1 ∨ 31 < q)) (hv : pV M.kd = true) (hf : Mo.vE n g a M.x M.y ≠ 0) :
    Calls Tryz.prog 15 #[.slice fa N fc, sp n g a, mv M vb, .int .i64 q] w fun e w' => e = .returned (.tuple #[.slice none 0 0, .int .i64 (Mo.vE n g a M.x M.y)]) ∧ Below w.heap.size w w' := by
  have HS := Lib.hid (fun V => size_any n g a V)
  rw [hc, show zS n g a = zV n from if_pos hc] at HS
  obtain ⟨Z, hZ⟩ : ∃ Z, zV n = Z := ⟨_, rfl⟩
  rw [hZ] at HS
  subst hN
  clear hZ
  have HA := Lib.hid hb
  have HC := Lib.hid (fun V h => mCheck_any M vb V h)
  have hxy := ok_xy he
  have HF := Lib.hid (fun V => Mo.Fits_any n g a M.x M.y V (wf_small hxy.1) (wf_small hxy.2.1))
  have HK := Lib.hid (fun V => Of_any M.kd V)
  unfold parts at HK
  rw [hv] at HK
  rw [he] at HC
  have t3 : (M.ad != a) = false := by simp [ha]
  have q1 : ¬ q < 1 := by omega
  have q2 : ¬ 31 < q := by omega
  obtain ⟨E, hE⟩ : ∃ E, Mo.vE n g a M.x M.y = E := ⟨_, rfl⟩
  rw [hE] at HF hf ⊢
  have t4 : (E != 0) = true := by simpa using hf
  obtain ⟨zI, hI⟩ : ∃ z, pI M.kd = z := ⟨_, rfl⟩
  obtain ⟨zQ, hQ⟩ : ∃ z, pQ M.kd = z := ⟨_, rfl⟩
  obtain ⟨zF, hF⟩ : ∃ z, pF M.kd = z := ⟨_, rfl⟩
  obtain ⟨zC, hC⟩ : ∃ z, pC M.kd = z := ⟨_, rfl⟩
  rw [hI, hQ, hF, hC] at HK
  clear he ha hb hc hE hf hI hQ hF hC hv hq hxy
  have HB := Lib.hid ((((Below.refl w.heap.size w).alloc (Nat.le_refl _) (.cells #[.slice fa 0 fc] 30)).alloc (by simp) (.cells #[.int .i64 n, .int .i64 g, .int .i64 a] 28)).alloc (by simp; omega) (.cells #[.int .i64 M.ad, .int .i64 M.kd, .int .i64 M.qt, .int .i64 M.x, .int .i64 M.y, .int .i64 M.pt, vb] 24))
  have H4 : Hid (At _ _ _ _) := Lib.hid (((At.new w #[.slice fa 0 fc] 30).below ((Below.refl _ _).alloc (Nat.le_refl _) (.cells #[.int .i64 n, .int .i64 g, .int .i64 a] 28))).below ((Below.refl _ _).alloc (Nat.le_refl _) (.cells #[.int .i64 M.ad, .int .i64 M.kd, .int .i64 M.qt, .int .i64 M.x, .int .i64 M.y, .int .i64 M.pt, vb] 24)))
  have H5 : Hid (At _ _ _ _) := Lib.hid ((At.new (w.alloc (.cells #[.slice fa 0 fc] 30)) #[.int .i64 n, .int .i64 g, .int .i64 a] 28).below ((Below.refl _ _).alloc (Nat.le_refl _) (.cells #[.int .i64 M.ad, .int .i64 M.kd, .int .i64 M.qt, .int .i64 M.x, .int .i64 M.y, .int .i64 M.pt, vb] 24)))
  have H6 : Hid (At _ _ _ _) := Lib.hid (At.new ((w.alloc (.cells #[.slice fa 0 fc] 30)).alloc (.cells #[.int .i64 n, .int .i64 g, .int .i64 a] 28)) #[.int .i64 M.ad, .int .i64 M.kd, .int .i64 M.qt, .int .i64 M.x, .int .i64 M.y, .int .i64 M.pt, vb] 24)
  simp only [World.size_alloc] at H5 H6
  have k0 := H5.out.cell 0 _ rfl
  have k1 := H5.out.cell 1 _ rfl
  have k2 := H5.out.cell 2 _ rfl
  go_enter Tryz.func15, Tryz.ntmps15
  go_wp2_with fail
  refine (HS.out _).mono ?_
  rintro e w1 ⟨rfl, b1⟩
  have H4 := Lib.hid (H4.out.below b1)
  have H5 := Lib.hid (H5.out.below b1)
  have H6 := Lib.hid (H6.out.below b1)
  have HB := Lib.hid (chain HB.out b1)
  have HA := Lib.hid ((HA.out.below HB.out))
  have c4 := H4.out.cell 0 _ rfl
  have k0 := H6.out.cell 0 _ rfl
  have k1 := H6.out.cell 1 _ rfl
  have k2 := H6.out.cell 2 _ rfl
  have k3 := H6.out.cell 3 _ rfl
  have k4 := H6.out.cell 4 _ rfl
  have k5 := H6.out.cell 5 _ rfl
  have k6 := H6.out.cell 6 _ rfl
  clear b1
  go_wp2_with fail
  refine (HC.out _ HA.out).mono ?_
  rintro e w2 ⟨rfl, b2⟩
  have H5 := Lib.hid (H5.out.below b2)
  have H6 := Lib.hid (H6.out.below b2)
  have HB := Lib.hid (chain HB.out b2)
  clear b2 k0 k1 k2 k3 k4 k5 k6
  have k0 := H6.out.cell 0 _ rfl
  have k1 := H6.out.cell 1 _ rfl
  have s2 := H5.out.cell 2 _ rfl
  go_wp2_with fail
  refine (HK.out _).mono ?_
  rintro e w3 ⟨rfl, b3⟩
  have b4 := (Below.refl w3.heap.size w3).alloc (Nat.le_refl _) (.cells #[.bool zI, .bool zQ, .bool true, .bool zF, .bool zC] 67)
  have HP := Lib.hid (At.new w3 #[.bool zI, .bool zQ, .bool true, .bool zF, .bool zC] 67)
  have H5 := Lib.hid ((H5.out.below b3).below b4)
  have H6 := Lib.hid ((H6.out.below b3).below b4)
  have HB := Lib.hid (chain (chain HB.out b3) b4)
  clear b3 b4 k0 k1 s2
  have k3 := H6.out.cell 3 _ rfl
  have k4 := H6.out.cell 4 _ rfl
  have s0 := H5.out.cell 0 _ rfl
  have s1 := H5.out.cell 1 _ rfl
  have s2 := H5.out.cell 2 _ rfl
  have p2 := HP.out.cell 2 _ rfl
  go_wp2_with fail
  refine (HF.out _).mono ?_
  rintro e w4 ⟨rfl, b5⟩
  have HB := Lib.hid (chain HB.out b5)
  clear b5
  go_wp2_with fail
  go_ret2
  exact ⟨rfl, HB.out⟩
theorem smp_no6_1 (hc : cE n g a = 0) (h0 : 0 < N) (hN : (N : Int) = zV n) (hb : M.at w vb) (he : M.e = 0) (ha : M.ad = a) (hq : ¬ (q < 1 ∨ 31 < q)) (hv : pV M.kd = true) (hf : Mo.vE n g a M.x M.y ≠ 0) :
    Calls Tryz.prog 15 #[.slice fa N fc, sp n g a, mv M vb, .int .i64 q] w fun e w' => e = .returned (.tuple #[.slice none 0 0, .int .i64 (Mo.vE n g a M.x M.y)]) ∧ Below w.heap.size w w' := by
  have HS := Lib.hid (fun V => size_any n g a V)
  rw [hc, show zS n g a = zV n from if_pos hc] at HS
  obtain ⟨Z, hZ⟩ : ∃ Z, zV n = Z := ⟨_, rfl⟩
  rw [hZ] at HS hN
  have t1 : ((N : Int) != Z) = false := by simp [hN]
  have t2 : (0 : Int) < (N : Int) := by omega
  clear hN h0 hZ
  have HA := Lib.hid hb
  have HC := Lib.hid (fun V h => mCheck_any M vb V h)
  have hxy := ok_xy he
  have HF := Lib.hid (fun V => Mo.Fits_any n g a M.x M.y V (wf_small hxy.1) (wf_small hxy.2.1))
  have HK := Lib.hid (fun V => Of_any M.kd V)
  unfold parts at HK
  rw [hv] at HK
  rw [he] at HC
  have t3 : (M.ad != a) = false := by simp [ha]
  have q1 : ¬ q < 1 := by omega
  have q2 : ¬ 31 < q := by omega
  obtain ⟨E, hE⟩ : ∃ E, Mo.vE n g a M.x M.y = E := ⟨_, rfl⟩
  rw [hE] at HF hf ⊢
  have t4 : (E != 0) = true := by simpa using hf
  obtain ⟨zI, hI⟩ : ∃ z, pI M.kd = z := ⟨_, rfl⟩
  obtain ⟨zQ, hQ⟩ : ∃ z, pQ M.kd = z := ⟨_, rfl⟩
  obtain ⟨zF, hF⟩ : ∃ z, pF M.kd = z := ⟨_, rfl⟩
  obtain ⟨zC, hC⟩ : ∃ z, pC M.kd = z := ⟨_, rfl⟩
  rw [hI, hQ, hF, hC] at HK
  clear he ha hb hc hE hf hI hQ hF hC hv hq hxy
  have HB := Lib.hid ((((Below.refl w.heap.size w).alloc (Nat.le_refl _) (.cells #[.slice fa N fc] 30)).alloc (by simp) (.cells #[.int .i64 n, .int .i64 g, .int .i64 a] 28)).alloc (by simp; omega) (.cells #[.int .i64 M.ad, .int .i64 M.kd, .int .i64 M.qt, .int .i64 M.x, .int .i64 M.y, .int .i64 M.pt, vb] 24))
  have H4 : Hid (At _ _ _ _) := Lib.hid (((At.new w #[.slice fa N fc] 30).below ((Below.refl _ _).alloc (Nat.le_refl _) (.cells #[.int .i64 n, .int .i64 g, .int .i64 a] 28))).below ((Below.refl _ _).alloc (Nat.le_refl _) (.cells #[.int .i64 M.ad, .int .i64 M.kd, .int .i64 M.qt, .int .i64 M.x, .int .i64 M.y, .int .i64 M.pt, vb] 24)))
  have H5 : Hid (At _ _ _ _) := Lib.hid ((At.new (w.alloc (.cells #[.slice fa N fc] 30)) #[.int .i64 n, .int .i64 g, .int .i64 a] 28).below ((Below.refl _ _).alloc (Nat.le_refl _) (.cells #[.int .i64 M.ad, .int .i64 M.kd, .int .i64 M.qt, .int .i64 M.x, .int .i64 M.y, .int .i64 M.pt, vb] 24)))
  have H6 : Hid (At _ _ _ _) := Lib.hid (At.new ((w.alloc (.cells #[.slice fa N fc] 30)).alloc (.cells #[.int .i64 n, .int .i64 g, .int .i64 a] 28)) #[.int .i64 M.ad, .int .i64 M.kd, .int .i64 M.qt, .int .i64 M.x, .int .i64 M.y, .int .i64 M.pt, vb] 24)
  simp only [World.size_alloc] at H5 H6
  have k0 := H5.out.cell 0 _ rfl
  have k1 := H5.out.cell 1 _ rfl
  have k2 := H5.out.cell 2 _ rfl
  go_enter Tryz.func15, Tryz.ntmps15
  go_wp2_with fail
  refine (HS.out _).mono ?_
  rintro e w1 ⟨rfl, b1⟩
  have H4 := Lib.hid (H4.out.below b1)
  have H5 := Lib.hid (H5.out.below b1)
  have H6 := Lib.hid (H6.out.below b1)
  have HB := Lib.hid (chain HB.out b1)
  have HA := Lib.hid ((HA.out.below HB.out))
  have c4 := H4.out.cell 0 _ rfl
  have k0 := H6.out.cell 0 _ rfl
  have k1 := H6.out.cell 1 _ rfl
  have k2 := H6.out.cell 2 _ rfl
  have k3 := H6.out.cell 3 _ rfl
  have k4 := H6.out.cell 4 _ rfl
  have k5 := H6.out.cell 5 _ rfl
  have k6 := H6.out.cell 6 _ rfl
  clear b1
  go_wp2_with fail
  refine (HC.out _ HA.out).mono ?_
  rintro e w2 ⟨rfl, b2⟩
  have H5 := Lib.hid (H5.out.below b2)
  have H6 := Lib.hid (H6.out.below b2)
  have HB := Lib.hid (chain HB.out b2)
  clear b2 k0 k1 k2 k3 k4 k5 k6
  have k0 := H6.out.cell 0 _ rfl
  have k1 := H6.out.cell 1 _ rfl
  have s2 := H5.out.cell 2 _ rfl
  go_wp2_with fail
  refine (HK.out _).mono ?_
  rintro e w3 ⟨rfl, b3⟩
  have b4 := (Below.refl w3.heap.size w3).alloc (Nat.le_refl _) (.cells #[.bool zI, .bool zQ, .bool true, .bool zF, .bool zC] 67)
  have HP := Lib.hid (At.new w3 #[.bool zI, .bool zQ, .bool true, .bool zF, .bool zC] 67)
  have H5 := Lib.hid ((H5.out.below b3).below b4)
  have H6 := Lib.hid ((H6.out.below b3).below b4)
  have HB := Lib.hid (chain (chain HB.out b3) b4)
  clear b3 b4 k0 k1 s2
  have k3 := H6.out.cell 3 _ rfl
  have k4 := H6.out.cell 4 _ rfl
  have s0 := H5.out.cell 0 _ rfl
  have s1 := H5.out.cell 1 _ rfl
  have s2 := H5.out.cell 2 _ rfl
  have p2 := HP.out.cell 2 _ rfl
  go_wp2_with fail
  refine (HF.out _).mono ?_
  rintro e w4 ⟨rfl, b5⟩
  have HB := Lib.hid (chain HB.out b5)
  clear b5
  go_wp2_with fail
  go_ret2
  exact ⟨rfl, HB.out⟩
end
end Bu
end Go.Proofs.YtbmglemjfodfhaaGreat
