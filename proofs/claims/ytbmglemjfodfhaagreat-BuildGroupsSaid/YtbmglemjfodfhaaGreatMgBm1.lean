/- Blocks copied; blocks that are the same. | Macroblocks copied. | Two pictures by numbers. | PaintAdds; awake. | PaintLays: what the pictures are, behind each call. | The document's answer: build: size, ahead, predicted. | The document's answer: build.Samples. | The document's answer: build.Macro, build.Skip. | BuildMacros: what the pictures and the macroblock are, behind each call. | The document's answer: build.rises, build.fit. | The document's answer: build.Group. -/
import Derived.Test.YtbmglemjfodfhaaGreatMgBl2
import Derived.Test.YtbmglemjfodfhaaGreatMgBu4
import Derived.Test.YtbmglemjfodfhaaGreatMgCopy
import Derived.Test.YtbmglemjfodfhaaGreatMgGr2
import Derived.Test.YtbmglemjfodfhaaGreatMgGr3
import Derived.Test.YtbmglemjfodfhaaGreatMgLoopE
import Derived.Test.YtbmglemjfodfhaaGreatMgPaG
import Derived.Test.YtbmglemjfodfhaaGreatMgPairIn
import Derived.Test.YtbmglemjfodfhaaGreatMgPick
import Derived.Test.YtbmglemjfodfhaaGreatMgRh3
import Derived.Test.YtbmglemjfodfhaaGreatMgRk4
import Derived.Test.YtbmglemjfodfhaaGreatMgScb
import Derived.BigQuiet
import Derived.Deep.DeepCutAuto
import Derived.Deep.RegionHeld3
import Derived.Deep.RegionWith
import Derived.Lib.MinMax
set_option linter.unusedVariables false
set_option linter.unusedSimpArgs false
namespace Go.Proofs.YtbmglemjfodfhaaGreat
open Go.RowKit
namespace Bl
open Bk Kd Sc
theorem news_pairs {w : World} {b o n : Nat} {r l : Nat → Int} (h : Pairs w b o n r l) : ∀ j u, (pcs r l n)[j]? = some u → w.cell? ((⟨b, o, none⟩ : Addr).add j) = some u := by
  intro j u hu
  have hj : j < n * 2 := by
    have := (List.getElem?_eq_some_iff.1 hu).1
    rwa [pcs_len] at this
  obtain ⟨p1, p2⟩ := pcs_get r l n (j / 2) (by omega)
  obtain ⟨e1, e2⟩ := h (j / 2) (by omega)
  rw [Addr.add_lit]
  rcases (by omega : j = j / 2 * 2 ∨ j = j / 2 * 2 + 1) with e | e
  · rw [e, p1] at hu
    rw [e, ← hu, ← e1]
  · rw [e, p2] at hu
    rw [e, ← hu, ← e2, Nat.add_assoc]
theorem one_pairs (r l : Nat → Int) : ∀ n, ∀ u ∈ pcs r l n, u.oneCell' = true
  | 0, u, h => by cases h
  | n + 1, u, h => by
    rw [pcs, List.mem_append] at h
    rcases h with h | h
    · exact one_pairs r l n u h
    · simp only [List.mem_cons, List.not_mem_nil, or_false] at h
      rcases h with rfl | rfl <;> rfl
theorem info_pair : (Tryz.prog.info? 179).map (fun i => (i.zero, i.size, i.bytes)) = some (some (.agg #[.int .i64 0, .int .i64 0]), 2, 16) := by kernel_rfl
abbrev OwnP (w : World) (B : Nat) (v : Value) (n : Nat) (r l : Nat → Int) : Prop := w.ownsRow B 179 2 v n (pcs r l n)
theorem OwnP.form {w : World} {B : Nat} {v : Value} {n : Nat} {r l : Nat → Int} (h : OwnP w B v n r l) : ∃ q c, v = .slice q n c := by
  rcases h.2 with ⟨rfl, h0⟩ | ⟨g, cap, cur, rfl, _⟩
  · have : n = 0 := by simpa [pcs_len] using h0
    subst this
    exact ⟨_, _, rfl⟩
  · exact ⟨_, _, rfl⟩
theorem OwnP.pl {w : World} {B : Nat} {v : Value} {n : Nat} {r l : Nat → Int} (h : OwnP w B v n r l) : Pl w v n r l := (RPl.of_own h).pl
theorem own_apart {w : World} {B1 B2 n1 n2 s1 s2 : Nat} {e1 e2 : TypeId} {v1 v2 : Value} {l1 l2 : List Value} (he : e1 ≠ e2) (h1 : w.ownsRow B1 e1 s1 v1 n1 l1) (h2 : w.ownsRow B2 e2 s2 v2 n2 l2) : v1.ownBlock = none ∨ v1.ownBlock ≠ v2.ownBlock := by
  rcases h1.2 with ⟨rfl, _⟩ | ⟨g, cap, cur, rfl, _, hg, _⟩
  · exact .inl rfl
  · refine .inr fun e => ?_
    rcases h2.2 with ⟨rfl, _⟩ | ⟨g2, cap2, cur2, rfl, _, hg2, _⟩
    · simp [Value.ownBlock] at e
    · have e : g = g2 := by simpa [Value.ownBlock] using e
      subst e
      rw [hg] at hg2
      have := Option.some.inj hg2
      injection this with _ h _
      exact he h
theorem own_mono {w : World} {B B' n s : Nat} {e : TypeId} {v : Value} {l : List Value} (h : w.ownsRow B e s v n l) (hb : B' ≤ B) : w.ownsRow B' e s v n l := by
  refine ⟨h.1, ?_⟩
  rcases h.2 with h | ⟨g, cap, cur, rfl, h1, h2⟩
  · exact .inl h
  · exact .inr ⟨g, cap, cur, rfl, Nat.le_trans hb h1, h2⟩
theorem OwnP.keep {w w' : World} {B x : Nat} {v : Value} {n : Nat} {r l : Nat → Int} (h : OwnP w B v n r l) (hg : w.grownBy w' (some x)) (hx : x < B) : OwnP w' B v n r l :=
  World.ownsRow.kept h hg (by
    by_cases h0 : v.ownBlock = none
    · exact .inl h0
    · exact .inr (fun e => by have := (World.ownsRow.lt h _ e).1; omega))
def CpB (w : World) (dc : Int) (n : Nat) (r l : Nat → Int) (e : Ending) (w' : World) : Prop := ∃ v, e = .returned (.agg #[.int .i64 dc, v]) ∧ OwnP w' w.heap.size v n r l ∧ Below w.heap.size w w'
section
set_option maxRecDepth 100000
set_option maxHeartbeats 2000000
theorem CopyBlock_at (dc : Int) (ad : Addr) (n c : Nat) (r l : Nat → Int) (w : World) (hn : n ≤ 1000) (h1 : ∀ j u, (pcs r l n)[j]? = some u → w.cell? (ad.add j) = some u) :
    Calls Tryz.prog 58 #[bv dc (some ad) n c] w (CpB w dc n r l) := by
  obtain ⟨i0, hi, hz0, hz1, hz2⟩ := info_parts info_pair
  have b1 := (((Below.refl w.heap.size w).alloc (Nat.le_refl _) (.cells #[.int .i64 dc, .slice (some ad) n c] 74)).alloc (by simp) (.cells #[.int .i64 0, .slice none 0 0] 74)).alloc (by simp; omega) (.cells #[] 179)
  have HB := Lib.hid b1
  have NW := Lib.hid (fun j u h => (b1.cell (p := ad.add j) (World.block_lt_of_cell? w _ (h1 j u h))).trans (h1 j u h))
  have OW := Lib.hid (one_pairs r l n)
  have H0 : Hid (At _ _ _ _) := Lib.hid (((At.new w #[.int .i64 dc, .slice (some ad) n c] 74).below ((Below.refl _ _).alloc (Nat.le_refl _) (.cells #[.int .i64 0, .slice none 0 0] 74))).below ((Below.refl _ _).alloc (Nat.le_refl _) (.cells #[] 179)))
  have H1 : Hid (At _ _ _ _) := Lib.hid ((At.new (w.alloc (.cells #[.int .i64 dc, .slice (some ad) n c] 74)) #[.int .i64 0, .slice none 0 0] 74).below ((Below.refl _ _).alloc (Nat.le_refl _) (.cells #[] 179)))
  simp only [World.size_alloc] at H1
  have OWN := Lib.hid (World.ownsRow_made (base := w.heap.size + 2) (e := 179) (size := 2) ((w.alloc (.cells #[.int .i64 dc, .slice (some ad) n c] 74)).alloc (.cells #[.int .i64 0, .slice none 0 0] 74)) #[] 0 (by simp) (Nat.zero_le _) rfl)
  simp only [World.size_alloc] at OWN
  have k1 := H0.out.cell 1 _ rfl
  clear b1 h1
  go_enter Tryz.func58, Tryz.ntmps58
  go_wp2_with (at_builtin; go_loud (refine wpList_append_own _ rfl _ _ 72 rfl (w.heap.size + 2) 179 i0 (.agg #[.int .i64 0, .int .i64 0]) 2 16 Tryz.underlying72 hi hz0 hz1 hz2 rfl (by decide) _ _ _ rfl OWN.out ad n c (pcs r l n) rfl (pcs_len r l n) NW.out OW.out (by unfold maxLen; omega) (by omega) (by simp only [World.size_alloc]; omega) ?_; intro v' w1 hown hgr hnil; simp only [Nat.zero_add, List.nil_append] at hown; have hb1 := HB.out.grown hgr (by simp only [World.size_alloc]; omega) (fun q e => by have := (OWN.out.lt q e).1; omega); have H0 := Lib.hid (H0.out.kept hgr (fun e => by have := (OWN.out.lt _ e.symm).1; omega)); have H1 := Lib.hid (H1.out.kept hgr (fun e => by have := (OWN.out.lt _ e.symm).1; omega)); have HP := Lib.hid hown; have HB := Lib.hid hb1; clear hown hgr hnil hb1 k1 NW OW; have f1 : w1.frozen? ⟨w.heap.size, 1, none⟩ = false := frozen_of_row H0.out 1; have c0 := H0.out.cell 0 _ rfl; have c1 := H0.out.cell 1 _ rfl; have d0 := H1.out.cell 0 _ rfl; have d1 := H1.out.cell 1 _ rfl; have e0 : w1.frozen? ⟨w.heap.size + 1, 0, none⟩ = false := frozen_of_row H1.out 0; have e1 : w1.frozen? ⟨w.heap.size + 1, 1, none⟩ = false := frozen_of_row H1.out 1; obtain ⟨q, c', rfl⟩ := OwnP.form HP.out))
  have g1 := Kd.grown_cell w1 w.heap.size 1 (.slice q n c')
  have hlt := H1.out.lt
  have H1' : At _ _ _ _ := H1.out.kept g1 (fun e => by have e := Option.some.inj e; omega)
  have HP' := OwnP.keep HP.out g1 (by omega)
  have HB' := HB.out.grown g1 HB.out.size (fun q e => by have := Option.some.inj e; omega)
  have g2 := grown_set (Kd.grown_cell (w1.setCell ⟨w.heap.size, 1, none⟩ (.slice q n c')) (w.heap.size + 1) 0 (.int .i64 dc)) 1 (.slice q n c')
  refine bodyPost_ret (results_cell_row rfl _ _ (w.heap.size + 1) _ _ _ _ rfl (ob_set (ob_set H1' 0 (.int .i64 dc)) 1 (.slice q n c')) Tryz.underlying74 rfl (by kernel_rfl)) rfl ?_
  exact ⟨_, rfl, own_mono (OwnP.keep HP' g2 (by omega)) (by omega), HB'.grown g2 HB'.size (fun q e => by have := Option.some.inj e; omega)⟩
theorem CopyBlock_nil (dc : Int) (r l : Nat → Int) (w : World) :
    Calls Tryz.prog 58 #[bv dc none 0 0] w (CpB w dc 0 r l) := by
  have b1 := (((Below.refl w.heap.size w).alloc (Nat.le_refl _) (.cells #[.int .i64 dc, .slice none 0 0] 74)).alloc (by simp) (.cells #[.int .i64 0, .slice none 0 0] 74)).alloc (by simp; omega) (.cells #[] 179)
  have H0 : Hid (At _ _ _ _) := Lib.hid (((At.new w #[.int .i64 dc, .slice none 0 0] 74).below ((Below.refl _ _).alloc (Nat.le_refl _) (.cells #[.int .i64 0, .slice none 0 0] 74))).below ((Below.refl _ _).alloc (Nat.le_refl _) (.cells #[] 179)))
  have k1 := H0.out.cell 1 _ rfl
  have f1 : _ := frozen_of_row H0.out 1
  clear b1
  go_enter Tryz.func58, Tryz.ntmps58
  go_wp2_with fail
  have hb2 := (((Below.refl w.heap.size w).alloc (Nat.le_refl _) (.cells #[.int .i64 dc, .slice (some ⟨w.heap.size + 1 + 1, 0, none⟩) 0 0] 74)).alloc (by simp) (.cells #[.int .i64 dc, .slice (some ⟨w.heap.size + 1 + 1, 0, none⟩) 0 0] 74)).alloc (by simp; omega) (.cells #[] 179)
  have HR : At _ _ _ _ := (At.new (w.alloc (.cells #[.int .i64 dc, .slice (some ⟨w.heap.size + 1 + 1, 0, none⟩) 0 0] 74)) #[.int .i64 dc, .slice (some ⟨w.heap.size + 1 + 1, 0, none⟩) 0 0] 74).below ((Below.refl _ _).alloc (Nat.le_refl _) (.cells #[] 179))
  have OW2 := World.ownsRow_made (base := w.heap.size) (e := 179) (size := 2) ((w.alloc (.cells #[.int .i64 dc, .slice (some ⟨w.heap.size + 1 + 1, 0, none⟩) 0 0] 74)).alloc (.cells #[.int .i64 dc, .slice (some ⟨w.heap.size + 1 + 1, 0, none⟩) 0 0] 74)) #[] 0 (by simp; omega) (Nat.zero_le _) rfl
  simp only [World.size_alloc] at HR OW2
  refine bodyPost_ret (results_cell_row rfl _ _ (w.heap.size + 1) _ _ _ _ rfl HR Tryz.underlying74 rfl (by kernel_rfl)) rfl ?_
  exact ⟨_, rfl, OW2, hb2⟩
theorem CopyBlock_any (dc : Int) (q : Option Addr) (n c : Nat) (r l : Nat → Int) (w : World) (hn : n ≤ 1000) (h : Pl w (.slice q n c) n r l) :
    Calls Tryz.prog 58 #[bv dc q n c] w (CpB w dc n r l) := by
  obtain ⟨a, c', e, _, _, h3⟩ := h
  cases e
  rcases h3 with ⟨rfl, h5⟩ | ⟨b, o, rfl, _, h4⟩
  · cases q with
    | none =>
      obtain rfl : c = 0 := h5 rfl
      exact CopyBlock_nil dc r l w
    | some a => exact CopyBlock_at dc a 0 c r l w hn (fun j u h => by cases h)
  · exact CopyBlock_at dc _ n c r l w hn (news_pairs h4)
theorem SameBlock_true (dc : Int) (q1 q2 : Option Addr) (n c1 c2 : Nat) (r l : Nat → Int) (w : World) (hn : n ≤ 1000) (h1 : Pl w (.slice q1 n c1) n r l) (h2 : Pl w (.slice q2 n c2) n r l) :
    Calls Tryz.prog 72 #[bv dc q1 n c1, bv dc q2 n c2] w fun e w' => e = .returned (.bool true) ∧ Below w.heap.size w w' := by
  have b1 := ((Below.refl w.heap.size w).alloc (Nat.le_refl _) (.cells #[.int .i64 dc, .slice q1 n c1] 74)).alloc (by simp) (.cells #[.int .i64 dc, .slice q2 n c2] 74)
  have HB := Lib.hid b1
  have HS := Lib.hid (SamePairs_true _ _ n r l r l _ (by omega) (h1.below b1) (h2.below b1) (fun i _ => ⟨rfl, rfl⟩))
  have H0 : Hid (At _ _ _ _) := Lib.hid ((At.new w #[.int .i64 dc, .slice q1 n c1] 74).below ((Below.refl _ _).alloc (Nat.le_refl _) (.cells #[.int .i64 dc, .slice q2 n c2] 74)))
  have H1 : Hid (At _ _ _ _) := Lib.hid (At.new (w.alloc (.cells #[.int .i64 dc, .slice q1 n c1] 74)) #[.int .i64 dc, .slice q2 n c2] 74)
  simp only [World.size_alloc] at H1
  have a0 := H0.out.cell 0 _ rfl
  have a1 := H0.out.cell 1 _ rfl
  have d0 := H1.out.cell 0 _ rfl
  have d1 := H1.out.cell 1 _ rfl
  have t1 : (dc == dc) = true := by simp
  clear b1 h1 h2
  go_enter Tryz.func72, Tryz.ntmps72
  go_wp2_with (go_at_call 117; refine HS.out.mono ?_; rintro e w1 ⟨rfl, b2⟩; have HB := Lib.hid (chain HB.out b2); clear b2)
  go_ret
  exact ⟨rfl, HB.out⟩
def _root_.Go.Proofs.YtbmglemjfodfhaaGreat.Bk.MB.cp (M : MB) (q : Nat → Option Addr) (cc : Nat → Nat) : MB := ⟨M.ad, M.kd, M.qt, M.x, M.y, M.pt, M.m, M.dc, q, M.nn, cc, M.r, M.l⟩
theorem SameMacro_true (M : MB) (q : Nat → Option Addr) (cc : Nat → Nat) (va vb : Value) (w : World) (hA : (M.cp q cc).at w va) (hB : M.at w vb) :
    Calls Tryz.prog 28 #[mv M va, mv M vb] w fun e w' => e = .returned (.bool true) ∧ Below w.heap.size w w' := by
  have b1 := ((Below.refl w.heap.size w).alloc (Nat.le_refl _) (.cells #[.int .i64 M.ad, .int .i64 M.kd, .int .i64 M.qt, .int .i64 M.x, .int .i64 M.y, .int .i64 M.pt, va] 24)).alloc (by simp) (.cells #[.int .i64 M.ad, .int .i64 M.kd, .int .i64 M.qt, .int .i64 M.x, .int .i64 M.y, .int .i64 M.pt, vb] 24)
  have HB := Lib.hid b1
  have HA0 := Lib.hid (hA.below b1)
  have HB0 := Lib.hid (hB.below b1)
  have H0 : Hid (At _ _ _ _) := Lib.hid ((At.new w #[.int .i64 M.ad, .int .i64 M.kd, .int .i64 M.qt, .int .i64 M.x, .int .i64 M.y, .int .i64 M.pt, va] 24).below ((Below.refl _ _).alloc (Nat.le_refl _) (.cells #[.int .i64 M.ad, .int .i64 M.kd, .int .i64 M.qt, .int .i64 M.x, .int .i64 M.y, .int .i64 M.pt, vb] 24)))
  have H1 : Hid (At _ _ _ _) := Lib.hid (At.new (w.alloc (.cells #[.int .i64 M.ad, .int .i64 M.kd, .int .i64 M.qt, .int .i64 M.x, .int .i64 M.y, .int .i64 M.pt, va] 24)) #[.int .i64 M.ad, .int .i64 M.kd, .int .i64 M.qt, .int .i64 M.x, .int .i64 M.y, .int .i64 M.pt, vb] 24)
  simp only [World.size_alloc] at H1
  clear b1 hA hB
  obtain ⟨a1, c1, rfl, k1, k2, k3⟩ := id HA0.out
  obtain ⟨a2, c2, rfl, k4, k5, k6⟩ := id HB0.out
  dsimp only [MB.cp] at k1 k3
  have HK3 := Lib.hid k3
  have HK6 := Lib.hid k6
  have a0 := H0.out.cell 0 _ rfl
  have a1' := H0.out.cell 1 _ rfl
  have a2' := H0.out.cell 2 _ rfl
  have a3 := H0.out.cell 3 _ rfl
  have a4 := H0.out.cell 4 _ rfl
  have a5 := H0.out.cell 5 _ rfl
  have a6 := H0.out.cell 6 _ rfl
  have d0 := H1.out.cell 0 _ rfl
  have d1 := H1.out.cell 1 _ rfl
  have d2 := H1.out.cell 2 _ rfl
  have d3 := H1.out.cell 3 _ rfl
  have d4 := H1.out.cell 4 _ rfl
  have d5 := H1.out.cell 5 _ rfl
  have d6 := H1.out.cell 6 _ rfl
  clear k3 k6 HA0 HB0
  dsimp only [MB.cp] at *
  go_enter Tryz.func28, Tryz.ntmps28
  go_upto_region 1 with fail
  generalize (w.alloc (.cells #[.int .i64 M.ad, .int .i64 M.kd, .int .i64 M.qt, .int .i64 M.x, .int .i64 M.y, .int .i64 M.pt, .slice a1 M.m c1] 24)).alloc (.cells #[.int .i64 M.ad, .int .i64 M.kd, .int .i64 M.qt, .int .i64 M.x, .int .i64 M.y, .int .i64 M.pt, .slice a2 M.m c2] 24) = W1 at *
  go_wp2_with fail
  go_loopw [5] (fun x wr => ∃ k : Nat, k ≤ M.m ∧ x = .int .i64 k ∧ Hid (Below W1.heap.size W1 wr)) (fun x _ => M.m - (intOf x).toNat)
  case atStart => exact ⟨0, by omega, rfl, Lib.hid (Below.refl _ _)⟩
  case round =>
    clear a0 a1' a2' a3 a4 a5 d0 d1 d2 d3 d4 d5
    obtain ⟨k, hk, rfl, HW⟩ := hrel
    have a6 := (H0.out.below HW.out).cell 6 _ rfl
    have d6 := (H1.out.below HW.out).cell 6 _ rfl
    by_cases hkm : k < M.m
    · have kb : (0 : Int) ≤ (k : Int) ∧ (k : Int) < (M.m : Int) := by omega
      have ek : IntKind.i64.wrap ((k : Int) + 1) = (k : Int) + 1 := IntWalk.i64_in _ (by have h2q := k5; unfold maxLen at h2q; omega)
      rcases HK3.out with h0 | ⟨b1, o1, rfl, i1⟩
      · omega
      rcases HK6.out with h0 | ⟨b2, o2, rfl, i2⟩
      · omega
      obtain ⟨e1, e2, p1, n1⟩ := i1 k hkm
      obtain ⟨f1, f2, p2, _⟩ := i2 k hkm
      have SB : Hid (∀ V, Below W1.heap.size W1 V → Calls Tryz.prog 72 #[bv (M.dc k) (q k) (M.nn k) (cc k), bv (M.dc k) (M.q k) (M.nn k) (M.cc k)] V fun e w' => e = .returned (.bool true) ∧ Below V.heap.size V w') := Lib.hid (fun V hV => SameBlock_true _ _ _ _ _ _ _ _ V n1 (p1.below hV) (p2.below hV))
      have q1 := Past.cell (show wr.cell? ⟨w.heap.size, 6, none⟩ = some (.slice (some ⟨b1, o1, none⟩) M.m c1) from a6)
      have q2 := Past.cell (show wr.cell? ⟨w.heap.size + 1, 6, none⟩ = some (.slice (some ⟨b2, o2, none⟩) M.m c2) from d6)
      have q3 := Past.cell ((HW.out.cell (p := ⟨b1, o1 + k * 2, none⟩) (World.block_lt_of_cell? _ _ e1)).trans e1)
      have q4 := Past.cell ((HW.out.cell (p := ⟨b1, o1 + k * 2 + 1, none⟩) (World.block_lt_of_cell? _ _ e2)).trans e2)
      have q5 := Past.cell ((HW.out.cell (p := ⟨b2, o2 + k * 2, none⟩) (World.block_lt_of_cell? _ _ f1)).trans f1)
      have q6 := Past.cell ((HW.out.cell (p := ⟨b2, o2 + k * 2 + 1, none⟩) (World.block_lt_of_cell? _ _ f2)).trans f2)
      clear e1 e2 p1 f1 f2 p2 i1 i2
      go_upto_region 6 with fail
      clear a6 d6
      refine wp_region_past (by kernel_rfl) (by kernel_rfl) ?_
      repeat (go_big_quiet_step ((go_at_call 72; exact past_call (SB.out _ (chain HW.out (Past.kept _))))))
      refine wpQuiet_nil ?_
      rintro _ ⟨⟨w4, h4⟩, rfl⟩
      have HW := Lib.hid (chain HW.out h4)
      clear q1 q2 q3 q4 q5 q6 h4
      go_wp2_with fail
      go_roundw
      case rel => exact ⟨k + 1, by omega, by go_num, HW⟩
      case measure => simp [intOf]; omega
    · have kb : ¬ (k : Int) < (M.m : Int) := by omega
      go_wp2_with fail
      go_ret
      exact ⟨rfl, chain HB.out HW.out⟩
end
end Bl
end Go.Proofs.YtbmglemjfodfhaaGreat
namespace Go.Proofs.YtbmglemjfodfhaaGreat
open Go.RowKit
namespace Bl
open Bk Kd Sc
theorem bcs_congr {dc : Nat → Int} {q q' : Nat → Option Addr} {nn cc cc' : Nat → Nat} : ∀ n, (∀ i, i < n → q i = q' i ∧ cc i = cc' i) → bcs dc q nn cc n = bcs dc q' nn cc' n
  | 0, _ => rfl
  | n + 1, h => by
    rw [bcs, bcs, bcs_congr n (fun i hi => h i (by omega)), (h n (by omega)).1, (h n (by omega)).2]
structure Cop (w : World) (B : Nat) (M : MB) (v : Value) (k : Nat) (Q : Nat → Option Addr) (C : Nat → Nat) : Prop where
  own : w.ownsRow B 74 2 v k (bcs M.dc Q M.nn C k)
  row : ∀ j, j < k → OwnP w B (.slice (Q j) (M.nn j) (C j)) (M.nn j) (M.r j) (M.l j)
theorem own_below {w w' : World} {B n s : Nat} {e : TypeId} {v : Value} {l : List Value} (h : w.ownsRow B e s v n l) (hb : Below w.heap.size w w') : w'.ownsRow B e s v n l :=
  World.ownsRow.kept h (grown_of_below hb none) (by cases hv : Value.ownBlock v <;> simp)
theorem Cop.below {w w' : World} {B : Nat} {M : MB} {v : Value} {k : Nat} {Q : Nat → Option Addr} {C : Nat → Nat} (h : Cop w B M v k Q C) (hb : Below w.heap.size w w') : Cop w' B M v k Q C :=
  ⟨own_below h.own hb, fun j hj => own_below (h.row j hj) hb⟩
theorem Cop.keep {w w' : World} {B x : Nat} {M : MB} {v : Value} {k : Nat} {Q : Nat → Option Addr} {C : Nat → Nat} (h : Cop w B M v k Q C) (hg : w.grownBy w' (some x)) (hx : x < B) : Cop w' B M v k Q C :=
  ⟨World.ownsRow.kept h.own hg (by
    by_cases h0 : v.ownBlock = none
    · exact .inl h0
    · exact .inr (fun e => by have := (World.ownsRow.lt h.own _ e).1; omega)), fun j hj => OwnP.keep (h.row j hj) hg hx⟩
theorem Cop.snoc {w w' : World} {B : Nat} {M : MB} {v v' : Value} {k : Nat} {Q : Nat → Option Addr} {C : Nat → Nat} {q : Option Addr} {c : Nat} {tmp : Obj} (h : Cop w B M v k Q C) (hp : OwnP w B (.slice q (M.nn k) c) (M.nn k) (M.r k) (M.l k))
    (hown : w'.ownsRow B 74 2 v' (k + 1) (bcs M.dc Q M.nn C k ++ [.int .i64 (M.dc k), .slice q (M.nn k) c])) (hg : (w.alloc tmp).grownBy w' v.ownBlock) : Cop w' B M v' (k + 1) (fun i => if i = k then q else Q i) (fun i => if i = k then c else C i) := by
  have e : bcs M.dc (fun i => if i = k then q else Q i) M.nn (fun i => if i = k then c else C i) (k + 1) = bcs M.dc Q M.nn C k ++ [.int .i64 (M.dc k), .slice q (M.nn k) c] := by
    rw [bcs, bcs_congr (q' := Q) (cc' := C) k (fun i hi => ⟨if_neg (by omega), if_neg (by omega)⟩), if_pos rfl, if_pos rfl]
  have kept : ∀ u n r l, OwnP w B u n r l → OwnP w' B u n r l := fun u n r l hu => by
    have b := (Below.refl w.heap.size w).alloc (Nat.le_refl _) tmp
    have h1 := own_below hu b
    have h2 := own_below h.own b
    exact World.ownsRow.kept h1 hg (own_apart (by decide) h1 h2)
  refine ⟨by rw [e]; exact hown, fun j hj => ?_⟩
  by_cases hjk : j = k
  · subst hjk
    simp only [if_pos]
    exact kept _ _ _ _ hp
  · simp only [if_neg hjk]
    exact kept _ _ _ _ (h.row j (by omega))
section
set_option maxRecDepth 100000
set_option maxHeartbeats 4000000
set_option linter.unusedVariables false
theorem CopyMacro_any (M : MB) (vb : Value) (w : World) (hM : M.at w vb) (h8 : M.m ≤ 8) :
    Calls Tryz.prog 20 #[mv M vb] w fun e w' => ∃ Q C va, e = .returned (mv M va) ∧ Cop w' (w.heap.size + 2) M va M.m Q C ∧ Below w.heap.size w w' := by
  obtain ⟨i0, hi, hz0, hz1, hz2⟩ := info_parts info_blk
  have b1 := ((Below.refl w.heap.size w).alloc (Nat.le_refl _) (.cells #[.int .i64 M.ad, .int .i64 M.kd, .int .i64 M.qt, .int .i64 M.x, .int .i64 M.y, .int .i64 M.pt, vb] 24)).alloc (by simp) (.cells #[.int .i64 0, .int .i64 0, .int .i64 0, .int .i64 0, .int .i64 0, .int .i64 0, .slice none 0 0] 24)
  have HB := Lib.hid b1
  have HA0 := Lib.hid (hM.below b1)
  have H0 : Hid (At _ _ _ _) := Lib.hid ((At.new w #[.int .i64 M.ad, .int .i64 M.kd, .int .i64 M.qt, .int .i64 M.x, .int .i64 M.y, .int .i64 M.pt, vb] 24).below ((Below.refl _ _).alloc (Nat.le_refl _) (.cells #[.int .i64 0, .int .i64 0, .int .i64 0, .int .i64 0, .int .i64 0, .int .i64 0, .slice none 0 0] 24)))
  have H1 : Hid (At _ _ _ _) := Lib.hid (At.new (w.alloc (.cells #[.int .i64 M.ad, .int .i64 M.kd, .int .i64 M.qt, .int .i64 M.x, .int .i64 M.y, .int .i64 M.pt, vb] 24)) #[.int .i64 0, .int .i64 0, .int .i64 0, .int .i64 0, .int .i64 0, .int .i64 0, .slice none 0 0] 24)
  simp only [World.size_alloc] at H1
  have hs0 : w.heap.size + 2 = ((w.alloc (.cells #[.int .i64 M.ad, .int .i64 M.kd, .int .i64 M.qt, .int .i64 M.x, .int .i64 M.y, .int .i64 M.pt, vb] 24)).alloc (.cells #[.int .i64 0, .int .i64 0, .int .i64 0, .int .i64 0, .int .i64 0, .int .i64 0, .slice none 0 0] 24)).heap.size := by simp
  clear b1 hM
  obtain ⟨qa, ca, rfl, k1, k2, k3⟩ := id HA0.out
  have HK3 := Lib.hid k3
  clear k3 HA0
  go_enter Tryz.func20, Tryz.ntmps20
  go_upto_region 1 with fail
  generalize (w.alloc (.cells #[.int .i64 M.ad, .int .i64 M.kd, .int .i64 M.qt, .int .i64 M.x, .int .i64 M.y, .int .i64 M.pt, .slice qa M.m ca] 24)).alloc (.cells #[.int .i64 0, .int .i64 0, .int .i64 0, .int .i64 0, .int .i64 0, .int .i64 0, .slice none 0 0] 24) = W1 at *
  go_wp2_with fail
  go_loopw [4, 3] (fun x v wr => ∃ (k : Nat) (Q : Nat → Option Addr) (C : Nat → Nat), k ≤ M.m ∧ x = .int .i64 k ∧ Hid (Cop wr (w.heap.size + 2) M v k Q C) ∧ Hid (Below W1.heap.size W1 wr)) (fun x _ _ => M.m - (intOf x).toNat)
  case atStart => exact ⟨0, fun _ => none, fun _ => 0, by omega, rfl, Lib.hid ⟨World.ownsRow_nil _ _ _ _, fun j hj => by omega⟩, Lib.hid (Below.refl _ _)⟩
  case round =>
    obtain ⟨k, Q, C, hk, rfl, HC, HW⟩ := hrel
    have H0 := Lib.hid (H0.out.below HW.out)
    have a6 := H0.out.cell 6 _ rfl
    have hsz := HW.out.size
    by_cases hkm : k < M.m
    · have kb : (0 : Int) ≤ (k : Int) ∧ (k : Int) < (M.m : Int) := by omega
      have ek : IntKind.i64.wrap ((k : Int) + 1) = (k : Int) + 1 := IntWalk.i64_in _ (by omega)
      rcases HK3.out with h0 | ⟨b, o, rfl, i1⟩
      · omega
      obtain ⟨e1, e2, p1, n1⟩ := i1 k hkm
      have e1 := (HW.out.cell (p := ⟨b, o + k * 2, none⟩) (World.block_lt_of_cell? _ _ e1)).trans e1
      have e2 := (HW.out.cell (p := ⟨b, o + k * 2 + 1, none⟩) (World.block_lt_of_cell? _ _ e2)).trans e2
      have CB := Lib.hid (CopyBlock_any (M.dc k) (M.q k) (M.nn k) (M.cc k) (M.r k) (M.l k) wr n1 (p1.below HW.out))
      clear p1 i1
      go_wp2_with (first
        | (go_at_call 58; refine CB.out.mono ?_; rintro e w1 ⟨v1, rfl, hP, b1⟩; obtain ⟨q1, c1, rfl⟩ := OwnP.form hP; have HP := Lib.hid (own_mono hP (show w.heap.size + 2 ≤ wr.heap.size by omega)); have HC := Lib.hid (HC.out.below b1); have HW := Lib.hid (chain HW.out b1); have hsz := HW.out.size; clear hP b1 a6 e1 e2)
        | (at_builtin; refine wpList_append_own _ rfl _ _ 22 rfl (w.heap.size + 2) 74 i0 (.agg #[.int .i64 0, .slice none 0 0]) 2 32 Tryz.underlying22 hi hz0 hz1 hz2 rfl (by decide) _ _ _ rfl (HC.out.own.alloc _) ⟨w1.heap.size, 0, none⟩ 1 1 [.int .i64 (M.dc k), .slice q1 (M.nn k) c1] rfl rfl (World.news_of_block (cs := #[.int .i64 (M.dc k), .slice q1 (M.nn k) c1]) (t := 74) (fr := (0, 0)) (heap_alloc_new w1 _)) (by simp [Value.oneCell']) (by unfold maxLen; omega) (by omega) (by simp only [World.size_alloc]; omega) ?_; intro v' w5 hown2 hgr hnil; have HC5 := Lib.hid (HC.out.snoc HP.out hown2 hgr); have HW5 := Lib.hid ((HW.out.alloc HW.out.size _).grown hgr (by simp only [World.size_alloc]; omega) (fun q hq => by have := (HC.out.own.lt q hq).1; omega)); clear hown2 hgr hnil))
      go_roundw
      case rel => exact ⟨k + 1, _, _, by omega, by go_num, HC5, HW5⟩
      case measure => simp [intOf]; omega
    · have hk7 : k = M.m := by omega
      have kb : ¬ (k : Int) < (M.m : Int) := by omega
      have H1 := Lib.hid (H1.out.below HW.out)
      clear hk hkm
      subst hk7
      obtain ⟨va, vm, vc, rfl⟩ := own_slice HC.out.own
      have c0 := H0.out.cell 0 _ rfl
      have c1 := H0.out.cell 1 _ rfl
      have c2 := H0.out.cell 2 _ rfl
      have c3 := H0.out.cell 3 _ rfl
      have c4 := H0.out.cell 4 _ rfl
      have c5 := H0.out.cell 5 _ rfl
      have f6 : wr.frozen? ⟨w.heap.size, 6, none⟩ = false := frozen_of_row H0.out 6
      have d0 := H1.out.cell 0 _ rfl
      have d1 := H1.out.cell 1 _ rfl
      have d2 := H1.out.cell 2 _ rfl
      have d3 := H1.out.cell 3 _ rfl
      have d4 := H1.out.cell 4 _ rfl
      have d5 := H1.out.cell 5 _ rfl
      have d6 := H1.out.cell 6 _ rfl
      have g0 : wr.frozen? ⟨w.heap.size + 1, 0, none⟩ = false := frozen_of_row H1.out 0
      have g1 : wr.frozen? ⟨w.heap.size + 1, 1, none⟩ = false := frozen_of_row H1.out 1
      have g2 : wr.frozen? ⟨w.heap.size + 1, 2, none⟩ = false := frozen_of_row H1.out 2
      have g3 : wr.frozen? ⟨w.heap.size + 1, 3, none⟩ = false := frozen_of_row H1.out 3
      have g4 : wr.frozen? ⟨w.heap.size + 1, 4, none⟩ = false := frozen_of_row H1.out 4
      have g5 : wr.frozen? ⟨w.heap.size + 1, 5, none⟩ = false := frozen_of_row H1.out 5
      have g6 : wr.frozen? ⟨w.heap.size + 1, 6, none⟩ = false := frozen_of_row H1.out 6
      go_wp2_with fail
      have hg1 := Kd.grown_cell wr w.heap.size 6 (.slice va vm vc)
      have H1' : At _ _ _ _ := H1.out.kept hg1 (fun e => by have e := Option.some.inj e; omega)
      obtain ⟨hA7, hg7⟩ := at_seven H1' (.int .i64 M.ad) (.int .i64 M.kd) (.int .i64 M.qt) (.int .i64 M.x) (.int .i64 M.y) (.int .i64 M.pt) (.slice va vm vc)
      have hb0 := chain HB.out HW.out
      have hb6 := hb0.grown hg1 hb0.size (fun q e => by have := Option.some.inj e; omega)
      have hb7 := hb6.grown hg7 hb6.size (fun q e => by have := Option.some.inj e; omega)
      refine bodyPost_ret (results_cell_row rfl _ _ (w.heap.size + 1) _ _ _ _ rfl hA7 Tryz.underlying24 rfl (by kernel_rfl)) rfl ?_
      exact ⟨Q, C, _, rfl, by rw [← hs0]; exact (HC.out.keep hg1 (by omega)).keep hg7 (by omega), hb7⟩
end
end Bl
end Go.Proofs.YtbmglemjfodfhaaGreat
namespace Go.Proofs.YtbmglemjfodfhaaGreat
open Go.RowKit
namespace Bl
open Bk Fr Pt Kd Bu
structure Made (w w' : World) (m : Int) (gi N N' : Nat) (F : Nat → Int) (fa : Option Addr) (NF fc : Nat) (F2 : Nat → Int) : Prop where
  n : (N : Int) = zV m
  n' : 0 < N' ∧ N' ≤ N
  nb : N ≤ 152064 ∧ NF ≤ 152064
  lo : w.heap.size ≤ gi
  a : Arr w' .u8 gi N F
  s : Sl .u8 w' (.slice fa NF fc) NF F2
  bd : ∀ i, 0 ≤ F2 i ∧ F2 i ≤ 255
  ne : ∀ x, fa = some x → x.block ≠ gi
  bel : Below w.heap.size w w'
section
set_option maxRecDepth 100000
set_option maxHeartbeats 4000000
set_option linter.unusedVariables false
theorem made_any (A B L Mr : Int) (no : Bool) (fo : Int) (w : World) :
    Calls Tryz.prog 19 #[.agg #[.int .i64 A, .int .i64 B, .int .i64 L, .int .i64 Mr, .bool no], .int .i64 fo] w fun e w' => ∃ gi N N' F fa NF fc F2, e = .returned (.tuple #[.slice (some ⟨gi, 0, none⟩) N' N, .slice fa NF fc]) ∧ Made w w' (fo % 2) gi N N' F fa NF fc F2 := by
  obtain ⟨m, hm⟩ : ∃ m, fo % 2 = m := ⟨_, rfl⟩
  have hm01 : m = 0 ∨ m = 1 := by omega
  obtain ⟨N, hN⟩ : ∃ N : Nat, (N : Int) = zV m := ⟨(zV m).toNat, by rcases hm01 with rfl | rfl <;> rfl⟩
  have Nb : 38016 ≤ N ∧ N ≤ 152064 := by rcases hm01 with rfl | rfl <;> (have : (N : Int) = _ := hN; simp [zV] at this; omega)
  obtain ⟨q1, hq1⟩ : ∃ q1, L % 51 = q1 := ⟨_, rfl⟩
  obtain ⟨q2, hq2⟩ : ∃ q2, Mr % 51 = q2 := ⟨_, rfl⟩
  have b1 : 0 ≤ q1 ∧ q1 ≤ 50 := by omega
  have b2 : 0 ≤ q2 ∧ q2 ≤ 50 := by omega
  obtain ⟨N', hN'⟩ : ∃ N' : Nat, (N : Int) - q1 = (N' : Int) := ⟨((N : Int) - q1).toNat, by omega⟩
  obtain ⟨M', hM'⟩ : ∃ M' : Nat, (N : Int) - q2 = (M' : Int) := ⟨((N : Int) - q2).toNat, by omega⟩
  have bN' : 0 < N' ∧ N' ≤ N := by omega
  have bM' : 0 < M' ∧ M' ≤ N := by omega
  have P1 : Hid (∀ V : World, Calls Tryz.prog 31 #[.int .i64 L, .int .i64 51] V fun e w' => e = .returned (.int .i64 q1) ∧ Below V.heap.size V w') := Lib.hid (fun V => (Pick_any L 51 V (by omega) (by omega)).mono (by rintro e w' ⟨rfl, rfl⟩; rw [hq1]; exact ⟨rfl, Below.refl _ _⟩))
  have P2 : Hid (∀ V : World, Calls Tryz.prog 31 #[.int .i64 Mr, .int .i64 51] V fun e w' => e = .returned (.int .i64 q2) ∧ Below V.heap.size V w') := Lib.hid (fun V => (Pick_any Mr 51 V (by omega) (by omega)).mono (by rintro e w' ⟨rfl, rfl⟩; rw [hq2]; exact ⟨rfl, Below.refl _ _⟩))
  have HM := Lib.hid hm
  have H01 := Lib.hid hm01
  have HN := Lib.hid hN
  have HNb := Lib.hid Nb
  have HB12 := Lib.hid (And.intro bN' bM')
  rw [hm]
  have mx1 : ∀ w', (Builtin.max_ #[3, 3] 3 #[.int .i64 0, .int .i64 ((N : Int) - q1)]).run Tryz.prog w' = .ok (.int .i64 (N' : Int)) w' := fun w' => by rw [Lib.run_max_ints, hN', show max 0 (N' : Int) = (N' : Int) by omega]
  have mx2 : ∀ w', (Builtin.max_ #[3, 3] 3 #[.int .i64 0, .int .i64 ((N : Int) - q2)]).run Tryz.prog w' = .ok (.int .i64 (M' : Int)) w' := fun w' => by rw [Lib.run_max_ints, hM', show max 0 (M' : Int) = (M' : Int) by omega]
  have e1 : IntKind.i64.wrap ((N : Int) - q1) = (N : Int) - q1 := IntWalk.i64_in _ (by omega)
  have e2 : IntKind.i64.wrap ((N : Int) - q2) = (N : Int) - q2 := IntWalk.i64_in _ (by omega)
  clear hm hm01 hN hq1 hq2 hN' hM' bN' bM' Nb
  have HB := Lib.hid (((Below.refl w.heap.size w).alloc (Nat.le_refl _) (.cells #[.int .i64 A, .int .i64 B, .int .i64 L, .int .i64 Mr, .bool no] 42)).drew)
  have HP : Hid (At (w.alloc (.cells #[.int .i64 A, .int .i64 B, .int .i64 L, .int .i64 Mr, .bool no] 42)).drew w.heap.size #[.int .i64 A, .int .i64 B, .int .i64 L, .int .i64 Mr, .bool no] 42) := Lib.hid ((At.new w _ _).below (Below.refl _ _).drew)
  have s0 := HP.out.cell 0 _ rfl
  have s1 := HP.out.cell 1 _ rfl
  go_enter Tryz.func19, Tryz.ntmps19
  go_upto_region 2 with (go_at_call 31; refine (Pick_any fo 2 _ (by omega) (by omega)).mono ?_; rintro e w1 ⟨rfl, rfl⟩; rw [HM.out])
  go_cut [6, 7] (fun u v wx => ∃ (gi gf : Nat) (f0 F2 : Nat → Int), u = .slice (some ⟨gi, 0, none⟩) N N ∧ v = .slice (some ⟨gf, 0, none⟩) N N ∧ w.heap.size < gi ∧ w.heap.size < gf ∧ gi ≠ gf ∧ gi < wx.heap.size ∧ gf < wx.heap.size ∧ Arr wx .u8 gi N f0 ∧ Arr wx .u8 gf N F2 ∧ (∀ i, 0 ≤ F2 i ∧ F2 i ≤ 255) ∧ At wx w.heap.size #[.int .i64 A, .int .i64 B, .int .i64 L, .int .i64 Mr, .bool no] 42 ∧ Below w.heap.size w wx)
  case first =>
    go_region_with (first
      | (go_at_call_of 13 A; refine (Mo.SceneB_any m A 1 N H01.out HN.out _).mono ?_; rintro e V1 ⟨gi, f0, rfl, i1, i2, hA, _, h4⟩; have l1 := Nat.lt_of_lt_of_le HP.out.lt i1; (try have ne : gi ≠ gf := by omega); (try have j4 := Nat.lt_of_lt_of_le i4 h4.size); (try have HF := Lib.hid (HF.out.below h4 i4)); have HI2 := Lib.hid hA; have HP := Lib.hid (HP.out.below h4); have HB := Lib.hid (chain HB.out h4); have s0 := HP.out.cell 0 _ rfl; have s1 := HP.out.cell 1 _ rfl; clear hA h4)
      | (go_at_call_of 13 B; refine (Mo.SceneB_any m B 2 N H01.out HN.out _).mono ?_; rintro e V2 ⟨gf, F2, rfl, i3, i4, hA, fbd, h5⟩; have l2 := Nat.lt_of_lt_of_le HP.out.lt i3; (try have ne : gi ≠ gf := by omega); (try have j2 := Nat.lt_of_lt_of_le i2 h5.size); (try have HI2 := Lib.hid (HI2.out.below h5 i2)); have HF := Lib.hid hA; have HFB := Lib.hid fbd; have HP := Lib.hid (HP.out.below h5); have HB := Lib.hid (chain HB.out h5); have s0 := HP.out.cell 0 _ rfl; have s1 := HP.out.cell 1 _ rfl; clear hA h5 fbd))
    all_goals (go_wp2_with fail; go_meet; exact ⟨_, _, _, _, rfl, rfl, l1, l2, ne, by first | exact j2 | exact i2, by first | exact j4 | exact i4, HI2.out, HF.out, HFB.out, HP.out, HB.out⟩)
  case rest =>
  obtain ⟨gi, gf, f0, F2, rfl, rfl, l1, l2, ne, l3, l4, hI, hF, hfb, hP, hB⟩ := hcut
  have HI := Lib.hid hI
  have HF := Lib.hid hF
  have HFB := Lib.hid hfb
  have HP2 := Lib.hid hP
  have HB2 := Lib.hid hB
  clear hI hF hfb hP hB s0 s1 HP HB
  have sl1 := fun w' => slice_to gi N N N' HB12.out.1.2 w'
  have sl2 := fun w' => slice_to gf N N M' HB12.out.2.2 w'
  have c2 : wc.cell? ⟨w.heap.size, 2, none⟩ = some (.int .i64 L) := HP2.out.cell 2 _ rfl
  have c3 : wc.cell? ⟨w.heap.size, 3, none⟩ = some (.int .i64 Mr) := HP2.out.cell 3 _ rfl
  go_upto_region 3 with fail
  have q2 := Past.cell c2
  have q3 := Past.cell c3
  clear c2 c3
  refine wp_region_past (by kernel_rfl) (by kernel_rfl) ?_
  repeat (go_big_quiet_step (first | (go_at_call_of 31 L; exact past_call (P1.out _)) | (go_at_call_of 31 Mr; exact past_call (P2.out _))))
  refine wpQuiet_nil ?_
  rintro _ ⟨⟨w4, h4⟩, rfl⟩
  have HI := Lib.hid (HI.out.below h4 l3)
  have HF := Lib.hid (HF.out.below h4 l4)
  have HP := Lib.hid (HP2.out.below h4)
  have HB := Lib.hid (chain HB2.out h4)
  have z4 := h4.size
  clear h4 q2 q3 sl1 sl2 mx1 mx2 e1 e2 P1 P2 HP2 HB2
  have p4 := HP.out.cell 4 _ rfl
  cases no with
  | true =>
    go_wp2_with fail
    go_ret2
    exact ⟨gi, N, N', f0, none, 0, 0, F2, rfl, HN.out, HB12.out.1, ⟨HNb.out.2, by omega⟩, by omega, HI.out, ⟨none, 0, rfl, Nat.le_refl _, Nat.zero_le _, .inl ⟨rfl, fun _ => rfl⟩⟩, HFB.out, (fun _ h => by cases h), HB.out⟩
  | false =>
    go_wp2_with fail
    go_ret2
    exact ⟨gi, N, N', f0, some ⟨gf, 0, none⟩, M', N, F2, rfl, HN.out, HB12.out.1, ⟨HNb.out.2, by have h1 := HNb.out.2; have h2 := HB12.out.2.2; omega⟩, by omega, HI.out, ⟨_, N, rfl, HB12.out.2.2, by have h1 := HNb.out.2; unfold maxLen; omega, .inr ⟨gf, 0, rfl, by omega, fun i hi => HF.out.ints i (by have h2 := HB12.out.2.2; omega)⟩⟩, HFB.out, (fun x h => by cases h; exact fun e => ne e.symm), HB.out⟩
end
end Bl
end Go.Proofs.YtbmglemjfodfhaaGreat
namespace Go.Proofs.YtbmglemjfodfhaaGreat
open Go.RowKit
namespace Pa
open Fr Pt
end Pa
end Go.Proofs.YtbmglemjfodfhaaGreat
namespace Go.Proofs.YtbmglemjfodfhaaGreat
open Go.RowKit
theorem Sl.grown {k : IntKind} {w w' : World} {q : Option Addr} {n d : Nat} {f : Nat → Int} {row : Option Nat} (h : Sl k w (.slice q n d) n f) (hg : w.grownBy w' row) (hne : 0 < n → ∀ x, q = some x → some x.block ≠ row) : Sl k w' (.slice q n d) n f := by
  obtain ⟨a, c, e, h1, h2, h3⟩ := h
  cases e
  refine ⟨_, _, rfl, h1, h2, ?_⟩
  rcases h3 with h3 | ⟨b, o, e, h4, h5⟩
  · exact .inl h3
  · by_cases hn : 0 < n
    · exact .inr ⟨b, o, e, Nat.lt_of_lt_of_le h4 hg.size, h5.grown hg (hne hn _ e)⟩
    · exact .inr ⟨b, o, e, Nat.lt_of_lt_of_le h4 hg.size, fun i hi => by omega⟩
namespace Pa
open Fr Pt
structure LC where
  (n g a : Int) (sp gi gf gL gM gS cL cM cS N N' M' M : Nat) (q : Option Addr) (d : Nat) (s F2 : Nat → Int)
structure LC.ok (c : LC) (W : World) : Prop where
  sp : W.heap.size ≤ c.sp
  gi : c.sp < c.gi
  gf : c.gi < c.gf
  gL : c.gf < c.gL
  gM : c.gL < c.gM
  gS : c.gM < c.gS
  n1 : 0 < c.N' ∧ c.N' ≤ c.N
  n2 : 0 < c.M' ∧ c.M' ≤ c.N
  n3 : c.N ≤ 152064
  n4 : (c.N' : Int) = zV c.n → c.N = c.N'
  m : c.M ≤ 80
  cL : c.N' + 4 ≤ c.cL ∧ c.cL ≤ maxLen
  cM : c.M' + 4 ≤ c.cM ∧ c.cM ≤ maxLen
  cS : c.M + 4 ≤ c.cS ∧ c.cS ≤ maxLen
  q : 0 < c.M → ∀ x, c.q = some x → x.block < W.heap.size
structure LS (c : LC) (W w : World) (fm ft : Nat → Int) : Prop where
  spot : SpotAt w c.sp c.n c.g c.a
  mine : Arr w .u8 c.gL (c.N' + 4) fm
  too : Arr w .u8 c.gi c.N ft
  other : Arr w .u8 c.gM (c.M' + 4) (lentF c.M' c.F2)
  from' : Arr w .u8 c.gf c.N c.F2
  lent : Arr w .u8 c.gS (c.M + 4) (lentF c.M c.s)
  arg : Sl .u8 w (.slice c.q c.M c.d) c.M c.s
  bel : Below W.heap.size W w
abbrev LC.sv (c : LC) : Value := .agg #[.int .i64 c.n, .int .i64 c.g, .int .i64 c.a]
theorem lent_sl {w : World} {g c n : Nat} {F : Nat → Int} (h : Arr w .u8 g (n + 4) (lentF n F)) (hc : n + 4 ≤ c) (hm : c ≤ maxLen) : Sl .u8 w (.slice (some ⟨g, 0, none⟩) n c) n F :=
  Lent.sl (h.lt (by omega)) hc hm h
theorem part_sl {w : World} {g n N : Nat} {F : Nat → Int} (h : Arr w .u8 g N F) (h0 : 0 < N) (hn : n ≤ N) (hm : N ≤ maxLen) : Sl .u8 w (.slice (some ⟨g, 0, none⟩) n N) n F :=
  ⟨_, N, rfl, hn, hm, .inr ⟨g, 0, rfl, h.lt h0, fun i hi => h.ints i (by omega)⟩⟩
section
variable {c : LC} {W w : World} {fm ft : Nat → Int}
theorem LS.below {w' : World} (h : LS c W w fm ft) (ok : c.ok W) (hb : Below w.heap.size w w') : LS c W w' fm ft where
  spot := h.spot.kept (grown_of_below hb none) (by simp)
  mine := h.mine.below hb (h.mine.lt (by omega))
  too := h.too.below hb (h.too.lt (by have := ok.n1; omega))
  other := h.other.below hb (h.other.lt (by omega))
  from' := h.from'.below hb (h.from'.lt (by have := ok.n1; omega))
  lent := h.lent.below hb (h.lent.lt (by omega))
  arg := h.arg.below hb
  bel := chain h.bel hb
theorem LS.toMine {w' : World} {f' : Nat → Int} (h : LS c W w fm ft) (ok : c.ok W) (hA : Arr w' .u8 c.gL (c.N' + 4) f') (hg : w.grownBy w' (some c.gL)) : LS c W w' f' ft := by
  have k1 := ok.sp; have k2 := ok.gi; have k3 := ok.gf; have k4 := ok.gL; have k5 := ok.gM; have k6 := ok.gS
  exact {
    spot := h.spot.kept hg (fun e => by have := Option.some.inj e; omega)
    mine := hA
    too := h.too.grown hg (fun e => by have := Option.some.inj e; omega)
    other := h.other.grown hg (fun e => by have := Option.some.inj e; omega)
    from' := h.from'.grown hg (fun e => by have := Option.some.inj e; omega)
    lent := h.lent.grown hg (fun e => by have := Option.some.inj e; omega)
    arg := h.arg.grown hg (fun h0 x e e2 => by have := ok.q h0 x e; have := Option.some.inj e2; omega)
    bel := h.bel.grown hg h.bel.size (fun b e => by have := Option.some.inj e; omega) }
theorem LS.toTo {w' : World} {f' : Nat → Int} (h : LS c W w fm ft) (ok : c.ok W) (hA : Arr w' .u8 c.gi c.N f') (hg : w.grownBy w' (some c.gi)) : LS c W w' fm f' := by
  have k1 := ok.sp; have k2 := ok.gi; have k3 := ok.gf; have k4 := ok.gL; have k5 := ok.gM; have k6 := ok.gS
  exact {
    spot := h.spot.kept hg (fun e => by have := Option.some.inj e; omega)
    mine := h.mine.grown hg (fun e => by have := Option.some.inj e; omega)
    too := hA
    other := h.other.grown hg (fun e => by have := Option.some.inj e; omega)
    from' := h.from'.grown hg (fun e => by have := Option.some.inj e; omega)
    lent := h.lent.grown hg (fun e => by have := Option.some.inj e; omega)
    arg := h.arg.grown hg (fun h0 x e e2 => by have := ok.q h0 x e; have := Option.some.inj e2; omega)
    bel := h.bel.grown hg h.bel.size (fun b e => by have := Option.some.inj e; omega) }
theorem LS.lay (h : LS c W w fm ft) (ok : c.ok W) (k : Int) : Calls Tryz.prog 18 #[.slice (some ⟨c.gL, 0, none⟩) c.N' c.cL, .agg #[.int .i64 c.n, .int .i64 c.g, .int .i64 c.a], .int .i64 k, .slice (some ⟨c.gS, 0, none⟩) c.M c.cS] w
    fun e w' => e = .returned (.int .i64 (layE c.n c.g c.a k c.N' c.M)) ∧ LS c W w' (layG c.n c.g c.a k c.N' c.M c.s fm) ft := by
  have k5 := ok.gM; have k6 := ok.gS; have k7 := ok.cL
  refine (Lay_any c.gL c.N' (c.N' + 4) c.cL _ c.M c.cS fm c.s c.n c.g c.a k w h.mine (by omega) (by omega) (by omega) (lent_sl h.lent ok.cS.1 ok.cS.2) (fun _ x e => by cases e; show c.gS ≠ c.gL; omega)).mono ?_
  rintro e w' ⟨rfl, h1, h2⟩
  exact ⟨rfl, h.toMine ok h1 h2⟩
theorem LS.copy (h : LS c W w fm ft) (ok : c.ok W) : Calls Tryz.prog 32 #[.slice (some ⟨c.gL, 0, none⟩) c.N' c.cL, .slice (some ⟨c.gM, 0, none⟩) c.M' c.cM, .agg #[.int .i64 c.n, .int .i64 c.g, .int .i64 c.a]] w
    fun e w' => e = .returned (.int .i64 (copE c.n c.g c.a c.N' c.M')) ∧ LS c W w' (copG c.n c.g c.a c.N' c.M' c.F2 fm) ft := by
  have k5 := ok.gM; have k6 := ok.gS; have k7 := ok.cL
  refine (Copy_any c.gL c.N' (c.N' + 4) c.cL _ c.M' c.cM fm c.F2 c.n c.g c.a w h.mine (by omega) (by omega) (by omega) (lent_sl h.other ok.cM.1 ok.cM.2) (fun _ x e => by cases e; show c.gM ≠ c.gL; omega)).mono ?_
  rintro e w' ⟨rfl, h1, h2⟩
  exact ⟨rfl, h.toMine ok h1 h2⟩
theorem LS.keptMine {f : Nat → Int} (h : LS c W w (lentF c.N' f) f) (ok : c.ok W) : Calls Tryz.prog 25 #[.slice (some ⟨c.gL, 0, none⟩) c.N' c.cL, .slice (some ⟨c.gi, 0, none⟩) c.N' c.N] w
    fun e w' => e = .returned (.bool true) ∧ LS c W w' (lentF c.N' f) f := by
  have k3 := ok.n1; have k5 := ok.n3
  refine (KeptBytes_row c.gL c.cL c.N' _ c.N f w (by omega) ok.cL.1 ok.cL.2 h.mine (part_sl h.too (by omega) k3.2 (by unfold maxLen; omega))).mono ?_
  rintro e w' ⟨rfl, h1⟩
  exact ⟨rfl, h.below ok h1⟩
theorem LS.keptOther (h : LS c W w fm ft) (ok : c.ok W) : Calls Tryz.prog 25 #[.slice (some ⟨c.gM, 0, none⟩) c.M' c.cM, .slice (some ⟨c.gf, 0, none⟩) c.M' c.N] w
    fun e w' => e = .returned (.bool true) ∧ LS c W w' fm ft := by
  have k3 := ok.n1; have k4 := ok.n2; have k5 := ok.n3
  refine (KeptBytes_row c.gM c.cM c.M' _ c.N c.F2 w (by omega) ok.cM.1 ok.cM.2 h.other (part_sl h.from' (by omega) k4.2 (by unfold maxLen; omega))).mono ?_
  rintro e w' ⟨rfl, h1⟩
  exact ⟨rfl, h.below ok h1⟩
end
end Pa
end Go.Proofs.YtbmglemjfodfhaaGreat
namespace Go.Proofs.YtbmglemjfodfhaaGreat
open Go.RowKit
namespace Bu
open Bk Fr Pt Kd
theorem rsize_any (n : Int) (w : World) : Calls Tryz.prog 60 #[.int .i64 n] w fun e w' => e = .returned (.int .i64 (zV n)) ∧ w = w' := by
  have HS := Lib.hid (fun V => Rf.rSize_any n V)
  go_enter Tryz.func60, Tryz.ntmps60
  go_wp2_with (go_at_call 77; refine (HS.out _).mono ?_; rintro e w1 ⟨rfl, rfl⟩)
  go_ret
  exact ⟨rfl, rfl⟩
theorem rahead_any (a : Option Addr) (N c : Nat) (f : Nat → Int) (n : Int) (w : World) (hs : Sl .u8 w (.slice a N c) N f) :
    Calls Tryz.prog 64 #[.slice a N c, .int .i64 n] w fun e w' => ∃ v, e = .returned v ∧ Sl .u8 w' v (aN N n) (aF N f) ∧ (v = .slice a N c ∨ Res .u8 w.heap.size w' v (aN N n) (aF N f)) ∧ Below w.heap.size w w' := by
  have HS := Lib.hid hs
  clear hs
  by_cases h0 : N = 0
  · have e1 : aN N n = Pa.gryN n := if_pos h0
    have e2 : aF N f = fun _ => 128 := if_pos h0
    rw [e1, e2]
    subst h0
    have HG := Lib.hid (fun V => Pa.rGrey_any n V)
    clear e1 e2
    go_enter Tryz.func64, Tryz.ntmps64
    go_wp2_with (go_at_call 107; refine (HG.out _).mono ?_; rintro e w1 ⟨v, rfl, hR, h1⟩; have HB := Lib.hid h1; have HR := Lib.hid hR; clear h1 hR)
    go_ret
    exact ⟨v, rfl, HR.out.sl, .inr HR.out, HB.out⟩
  · have e1 : aN N n = N := if_neg h0
    have e2 : aF N f = f := if_neg h0
    rw [e1, e2]
    have t1 : ((N : Int) == 0) = false := by simp; omega
    clear e1 e2 h0
    go_enter Tryz.func64, Tryz.ntmps64
    go_wp2_with fail
    go_ret
    exact ⟨_, rfl, HS.out, .inl rfl, Below.refl _ _⟩
section
set_option maxRecDepth 100000
set_option maxHeartbeats 4000000
set_option linter.unusedVariables false
theorem rpred_any (M : MB) (vb vf : Value) (N0 : Nat) (F0 : Nat → Int) (n g a : Int) (k : Nat) (zQ zV' zC : Bool) (w : World) (hs : Sl .u8 w vf N0 F0) (hF : ∀ i, 0 ≤ F0 i ∧ F0 i ≤ 255) (hk : k < 6) (hc : cE n g a = 0) (hN : (N0 : Int) = zV n) (hv : Mo.vE n g a M.x M.y = 0) (hx : -15 ≤ M.x ∧ M.x ≤ 15) (hy : -15 ≤ M.y ∧ M.y ≤ 15) (hI : pI M.kd = false) :
    Calls Tryz.prog 66 #[vf, sp n g a, mv M vb, .int .i64 ((k : Int) + 1), .agg #[.bool false, .bool zQ, .bool zV', .bool (pF M.kd), .bool zC]] w fun e w' => ∃ v, e = .returned v ∧ Res .u8 w.heap.size w' v 64 (pP M n g a F0 k) ∧ Below w.heap.size w w' := by
  have HF : Hid (∀ V, Sl .u8 V vf N0 F0 → Calls Tryz.prog 108 #[vf, .agg #[.int .i64 n, .int .i64 g, .int .i64 a], .int .i64 ((k : Int) + 1), .int .i64 M.x, .int .i64 M.y] V fun e w' => ∃ v', e = .returned (.tuple #[v', .int .i64 0]) ∧ Res .u8 V.heap.size w' v' 64 (Mo.fetF F0 n g a ((k : Int) + 1) M.x M.y) ∧ Below V.heap.size V w') := Lib.hid (fun V h => by
    have := Rf.rFetch_any vf N0 F0 n g a ((k : Int) + 1) M.x M.y V h (wf_small hx) (wf_small hy)
    have e0 : Mo.fetE N0 n g a ((k : Int) + 1) M.x M.y = 0 := by unfold Mo.fetE; rw [if_neg (by omega), if_neg (by omega), if_neg (by omega), hv]
    rw [e0, show Mo.fetN N0 n g a ((k : Int) + 1) M.x M.y = 64 from if_pos e0] at this
    exact this)
  have HL : Hid (∀ V v, Sl .u8 V v 64 (Mo.fetF F0 n g a ((k : Int) + 1) M.x M.y) → Calls Tryz.prog 109 #[v] V fun e w' => ∃ v', e = .returned (.tuple #[v', .int .i64 0]) ∧ Res .u8 V.heap.size w' v' 64 (Lo.filt (Mo.fetF F0 n g a ((k : Int) + 1) M.x M.y)) ∧ Below V.heap.size V w') := Lib.hid (fun V v h => by
    have := Lo.rFilter_any v 64 _ V h (fun t => fetF_bd hF _ _ _ _ _ _ t)
    unfold Lo.Filters at this
    exact this)
  have hP : pP M n g a F0 k = if pF M.kd = true then Lo.filt (Mo.fetF F0 n g a ((k : Int) + 1) M.x M.y) else Mo.fetF F0 n g a ((k : Int) + 1) M.x M.y := by unfold pP; rw [if_neg (by simp [hI])]
  rw [hP]
  obtain ⟨G, hG⟩ : ∃ G, Mo.fetF F0 n g a ((k : Int) + 1) M.x M.y = G := ⟨_, rfl⟩
  rw [hG] at HF HL
  rw [hG]
  have b1 := (((Below.refl w.heap.size w).alloc (Nat.le_refl _) (.cells #[.int .i64 n, .int .i64 g, .int .i64 a] 28)).alloc (by simp) (.cells #[.int .i64 M.ad, .int .i64 M.kd, .int .i64 M.qt, .int .i64 M.x, .int .i64 M.y, .int .i64 M.pt, vb] 24)).alloc (by simp; omega) (.cells #[.bool false, .bool zQ, .bool zV', .bool (pF M.kd), .bool zC] 67)
  have HB := Lib.hid b1
  have HS := Lib.hid (hs.below b1)
  have H5 : Hid (At _ _ _ _) := Lib.hid (((At.new w #[.int .i64 n, .int .i64 g, .int .i64 a] 28).below ((Below.refl _ _).alloc (Nat.le_refl _) (.cells #[.int .i64 M.ad, .int .i64 M.kd, .int .i64 M.qt, .int .i64 M.x, .int .i64 M.y, .int .i64 M.pt, vb] 24))).below ((Below.refl _ _).alloc (Nat.le_refl _) (.cells #[.bool false, .bool zQ, .bool zV', .bool (pF M.kd), .bool zC] 67)))
  have H6 : Hid (At _ _ _ _) := Lib.hid ((At.new (w.alloc (.cells #[.int .i64 n, .int .i64 g, .int .i64 a] 28)) #[.int .i64 M.ad, .int .i64 M.kd, .int .i64 M.qt, .int .i64 M.x, .int .i64 M.y, .int .i64 M.pt, vb] 24).below ((Below.refl _ _).alloc (Nat.le_refl _) (.cells #[.bool false, .bool zQ, .bool zV', .bool (pF M.kd), .bool zC] 67)))
  have H7 : Hid (At _ _ _ _) := Lib.hid (At.new ((w.alloc (.cells #[.int .i64 n, .int .i64 g, .int .i64 a] 28)).alloc (.cells #[.int .i64 M.ad, .int .i64 M.kd, .int .i64 M.qt, .int .i64 M.x, .int .i64 M.y, .int .i64 M.pt, vb] 24)) #[.bool false, .bool zQ, .bool zV', .bool (pF M.kd), .bool zC] 67)
  simp only [World.size_alloc] at H6 H7
  have sz := b1.size
  obtain ⟨zF, hz⟩ : ∃ z, pF M.kd = z := ⟨_, rfl⟩
  rw [hz] at HB HS H5 H6 H7 sz
  rw [hz]
  have s0 := H5.out.cell 0 _ rfl
  have s1 := H5.out.cell 1 _ rfl
  have s2 := H5.out.cell 2 _ rfl
  have m3 := H6.out.cell 3 _ rfl
  have m4 := H6.out.cell 4 _ rfl
  clear b1 hG hP hz hs hF hk hc hN hv hx hy hI
  cases zF with
  | false =>
    go_enter Tryz.func66, Tryz.ntmps66
    go_wp2_with (go_at_call 108; refine (HF.out _ HS.out).mono ?_; rintro e w1 ⟨v1, rfl, hR, h1⟩; have HB := Lib.hid (chain HB.out h1); have HR1 := Lib.hid (Res.base hR sz); have p3 := (H7.out.below h1).cell 3 _ rfl; clear h1 hR s0 s1 s2 m3 m4)
    go_ret
    exact ⟨_, rfl, HR1.out, HB.out⟩
  | true =>
    go_enter Tryz.func66, Tryz.ntmps66
    go_wp2_with (first
      | (go_at_call 108; refine (HF.out _ HS.out).mono ?_; rintro e w1 ⟨v1, rfl, hR, h1⟩; have sz := Nat.le_trans sz h1.size; have HB := Lib.hid (chain HB.out h1); have HR1 := Lib.hid hR; have p3 := (H7.out.below h1).cell 3 _ rfl; clear h1 hR s0 s1 s2 m3 m4)
      | (go_at_call 109; refine (HL.out _ _ HR1.out.sl).mono ?_; rintro e w2 ⟨v2, rfl, hR, h1⟩; have HB := Lib.hid (chain HB.out h1); have HR2 := Lib.hid (Res.base hR sz); clear h1 hR p3))
    go_ret
    exact ⟨_, rfl, HR2.out, HB.out⟩
end
end Bu
end Go.Proofs.YtbmglemjfodfhaaGreat
namespace Go.Proofs.YtbmglemjfodfhaaGreat
open Go.RowKit
namespace Bu
open Bk Fr Pt Kd
def rBad (M : MB) (n a : Int) (N : Nat) : Bool := (decide (0 < N) && ((N : Int) != zV n)) || (M.e != 0) || (M.ad != a)
theorem rBad_iff (M : MB) (n a : Int) (N : Nat) : rBad M n a N = true ↔ (0 < N ∧ (N : Int) ≠ zV n) ∨ M.e ≠ 0 ∨ M.ad ≠ a := by
  unfold rBad
  simp [or_assoc]
theorem all_has {M : MB} (h : M.e = 0) (hI : pI M.kd = true) (i : Nat) (hi : i < 6) : hasP M.pt ((i : Int) + 1) = true := by
  have h2 := (ok_parts h).2.1
  unfold MB.bad2 at h2
  simp only [Bool.or_eq_false_iff, Bool.and_eq_false_iff] at h2
  obtain ⟨⟨⟨_, h3⟩, _⟩, _⟩ := h2
  have h4 : M.pt = 63 := by
    rcases h3 with h3 | h3
    · rw [hI] at h3; cases h3
    · simpa using h3
  rw [h4]
  rcases (by omega : i = 0 ∨ i = 1 ∨ i = 2 ∨ i = 3 ∨ i = 4 ∨ i = 5) with rfl | rfl | rfl | rfl | rfl | rfl <;> decide
section
set_option maxRecDepth 100000
set_option maxHeartbeats 40000000
set_option linter.unusedVariables false
variable (M : MB) (vb : Value) (fa : Option Addr) (N fc : Nat) (f : Nat → Int) (n g a q : Int) (w : World)
theorem rsmp_no1 (hc : cE n g a ≠ 0) :
    Calls Tryz.prog 22 #[.slice fa N fc, sp n g a, mv M vb, .int .i64 q] w fun e w' => e = .returned (.tuple #[.slice none 0 0, .int .i64 (cE n g a)]) ∧ Below w.heap.size w w' := by
  have HS := Lib.hid (fun V => Rf.rCorner_any n g a V)
  obtain ⟨E, hE⟩ : ∃ E, cE n g a = E := ⟨_, rfl⟩
  rw [hE] at HS hc
  rw [hE]
  have t1 : (E != 0) = true := by simpa using hc
  clear hc hE
  have HB := Lib.hid (((Below.refl w.heap.size w).alloc (Nat.le_refl _) (.cells #[.int .i64 n, .int .i64 g, .int .i64 a] 28)).alloc (by simp) (.cells #[.int .i64 M.ad, .int .i64 M.kd, .int .i64 M.qt, .int .i64 M.x, .int .i64 M.y, .int .i64 M.pt, vb] 24))
  have H5 : Hid (At _ _ _ _) := Lib.hid ((At.new w #[.int .i64 n, .int .i64 g, .int .i64 a] 28).below ((Below.refl _ _).alloc (Nat.le_refl _) (.cells #[.int .i64 M.ad, .int .i64 M.kd, .int .i64 M.qt, .int .i64 M.x, .int .i64 M.y, .int .i64 M.pt, vb] 24)))
  have k0 := H5.out.cell 0 _ rfl
  have k1 := H5.out.cell 1 _ rfl
  have k2 := H5.out.cell 2 _ rfl
  go_enter Tryz.func22, Tryz.ntmps22
  go_wp2_with (go_at_call 59; refine (HS.out _).mono ?_; rintro e w1 ⟨rfl, b1⟩; have HB := Lib.hid (chain HB.out b1); clear b1 H5 k0 k1 k2)
  go_ret2
  exact ⟨rfl, HB.out⟩
def rsmpPost (M : MB) (n g a : Int) (N : Nat) (f : Nat → Int) (q : Int) (w : World) (e : Ending) (w' : World) : Prop := ∃ v, e = .returned (.tuple #[v, .int .i64 (smE M n g a N q)]) ∧ (smE M n g a N q = 0 → Six w.heap.size w' v (smp M n g a (aF N f) q)) ∧ (smE M n g a N q ≠ 0 → v = .slice none 0 0) ∧ Below w.heap.size w w'
theorem rsmp_out {M : MB} {n g a : Int} {N : Nat} {f : Nat → Int} {q : Int} {w w' : World} {x : Int} (hx : smE M n g a N q = x) (h0 : x ≠ 0) (hb : Below w.heap.size w w') : rsmpPost M n g a N f q w (.returned (.tuple #[.slice none 0 0, .int .i64 x])) w' :=
  ⟨_, by rw [hx], fun h1 => absurd (hx.symm.trans h1) h0, fun _ => rfl, hb⟩
theorem rsmp_yes {M : MB} {n g a : Int} {N : Nat} {f : Nat → Int} {q : Int} {w w' : World} {v : Value} (hx : smE M n g a N q = 0) (h : Six w.heap.size w' v (smp M n g a (aF N f) q)) (hb : Below w.heap.size w w') : rsmpPost M n g a N f q w (.returned (.tuple #[v, .int .i64 0])) w' :=
  ⟨_, by rw [hx], fun _ => h, fun h0 => absurd hx h0, hb⟩
theorem rsmp_on (hs : Sl .u8 w (.slice fa N fc) N f) (hf : ∀ i, 0 ≤ f i ∧ f i ≤ 255) (hc : cE n g a = 0) (hb : M.at w vb) :
    Calls Tryz.prog 22 #[.slice fa N fc, sp n g a, mv M vb, .int .i64 q] w (rsmpPost M n g a N f q w) := by
  have HS := Lib.hid (fun V => Rf.rCorner_any n g a V)
  rw [hc] at HS
  have HZ := Lib.hid (fun V => rsize_any n V)
  have HC := Lib.hid (fun V h => rmCheck_any M vb V h)
  -- the error, by stages
  have E1 : Hid (rBad M n a N = true → smE M n g a N q = 2) := Lib.hid (fun h => by unfold smE; rw [if_neg (by omega), if_pos ((rBad_iff M n a N).1 h)])
  have E2 : Hid (rBad M n a N = false → (q < 1 ∨ 31 < q) → smE M n g a N q = 3) := Lib.hid (fun h h5 => by unfold smE; rw [if_neg (by omega), if_neg (fun h' => by rw [(rBad_iff M n a N).2 h'] at h; cases h), if_pos h5])
  have E3 : Hid (rBad M n a N = false → ¬ (q < 1 ∨ 31 < q) → smE M n g a N q = if pV M.kd = true ∧ Mo.vE n g a M.x M.y ≠ 0 then Mo.vE n g a M.x M.y else 0) := Lib.hid (fun h h5 => by unfold smE; rw [if_neg (by omega), if_neg (fun h' => by rw [(rBad_iff M n a N).2 h'] at h; cases h), if_neg h5])
  have HN : Hid (rBad M n a N = false → (N = 0 ∨ (N : Int) = zV n) ∧ M.e = 0 ∧ M.ad = a) := Lib.hid (fun h => by
    have h' : ¬ ((0 < N ∧ (N : Int) ≠ zV n) ∨ M.e ≠ 0 ∨ M.ad ≠ a) := fun h' => by rw [(rBad_iff M n a N).2 h'] at h; cases h
    refine ⟨?_, ?_, ?_⟩
    · by_cases h0 : N = 0
      · exact .inl h0
      · by_cases h1 : (N : Int) = zV n
        · exact .inr h1
        · exact absurd (.inl ⟨by omega, h1⟩) h'
    · by_cases h1 : M.e = 0
      · exact h1
      · exact absurd (.inr (.inl h1)) h'
    · by_cases h1 : M.ad = a
      · exact h1
      · exact absurd (.inr (.inr h1)) h')
  have HSl := Lib.hid hs
  have HF := Lib.hid hf
  have HA := Lib.hid hb
  have HCE := Lib.hid hc
  obtain ⟨RB, hRB⟩ : ∃ x, rBad M n a N = x := ⟨_, rfl⟩
  rw [hRB] at E1 E2 E3 HN
  have HRB : Hid (RB = ((decide (0 < N) && ((N : Int) != zV n)) || (M.e != 0) || (M.ad != a))) := Lib.hid hRB.symm
  clear hs hf hc hb hRB
  have HB := Lib.hid (((Below.refl w.heap.size w).alloc (Nat.le_refl _) (.cells #[.int .i64 n, .int .i64 g, .int .i64 a] 28)).alloc (by simp) (.cells #[.int .i64 M.ad, .int .i64 M.kd, .int .i64 M.qt, .int .i64 M.x, .int .i64 M.y, .int .i64 M.pt, vb] 24))
  have H5 : Hid (At _ _ _ _) := Lib.hid ((At.new w #[.int .i64 n, .int .i64 g, .int .i64 a] 28).below ((Below.refl _ _).alloc (Nat.le_refl _) (.cells #[.int .i64 M.ad, .int .i64 M.kd, .int .i64 M.qt, .int .i64 M.x, .int .i64 M.y, .int .i64 M.pt, vb] 24)))
  have H6 : Hid (At _ _ _ _) := Lib.hid (At.new (w.alloc (.cells #[.int .i64 n, .int .i64 g, .int .i64 a] 28)) #[.int .i64 M.ad, .int .i64 M.kd, .int .i64 M.qt, .int .i64 M.x, .int .i64 M.y, .int .i64 M.pt, vb] 24)
  simp only [World.size_alloc] at H6
  have k0 := H5.out.cell 0 _ rfl
  have k1 := H5.out.cell 1 _ rfl
  have k2 := H5.out.cell 2 _ rfl
  go_enter Tryz.func22, Tryz.ntmps22
  go_wp2_with fail
  refine (HS.out _).mono ?_
  rintro e w1 ⟨rfl, b1⟩
  have H5 := Lib.hid (H5.out.below b1)
  have H6 := Lib.hid (H6.out.below b1)
  have HB := Lib.hid (chain HB.out b1)
  have lz : w.heap.size + 2 ≤ w1.heap.size := by have := b1.size; simp at this; omega
  clear b1 k0 k1 k2 HS
  go_upto_region 4 with fail
  go_cut [59] (fun u wx => u = .bool RB ∧ Hid (Below w1.heap.size w1 wx))
  case first =>
    have k0 := H5.out.cell 0 _ rfl
    have k2 := H5.out.cell 2 _ rfl
    have m0 := H6.out.cell 0 _ rfl
    have m1 := H6.out.cell 1 _ rfl
    have m2 := H6.out.cell 2 _ rfl
    have m3 := H6.out.cell 3 _ rfl
    have m4 := H6.out.cell 4 _ rfl
    have m5 := H6.out.cell 5 _ rfl
    have m6 := H6.out.cell 6 _ rfl
    have HA1 := Lib.hid (HA.out.below HB.out)
    obtain ⟨ME, hME⟩ : ∃ x, M.e = x := ⟨_, rfl⟩
    obtain ⟨Z, hZ⟩ : ∃ x, zV n = x := ⟨_, rfl⟩
    rw [hZ] at HZ HRB
    rw [hME] at HC HRB
    clear hME hZ E1 E2 E3 HN
    by_cases h0 : 0 < N
    · have t0 : (0 : Int) < (N : Int) := by omega
      by_cases h1 : (N : Int) = Z
      · have t1 : ((N : Int) != Z) = false := by simp [h1]
        by_cases h2 : ME = 0
        · have t2 : (ME != 0) = false := by simp [h2]
          have HRB' : Hid (RB = (M.ad != a)) := Lib.hid (by rw [HRB.out, t1, t2]; simp)
          clear h0 h1 h2 HRB
          go_wp2_with (first
            | (go_at_call 60; refine (HZ.out _).mono ?_; rintro e w2 ⟨rfl, rfl⟩)
            | (go_at_call 61; refine (HC.out _ HA1.out).mono ?_; rintro e w2 ⟨rfl, b2⟩; have k2 := (H5.out.below b2).cell 2 _ rfl; have m0 := (H6.out.below b2).cell 0 _ rfl; have B2 := Lib.hid b2; clear b2))
          go_meet
          exact ⟨by rw [HRB'.out], B2⟩
        · have t2 : (ME != 0) = true := by simpa using h2
          have HRB' : Hid (RB = true) := Lib.hid (by rw [HRB.out, t1, t2]; simp)
          clear h0 h1 h2 HRB
          go_wp2_with (first
            | (go_at_call 60; refine (HZ.out _).mono ?_; rintro e w2 ⟨rfl, rfl⟩)
            | (go_at_call 61; refine (HC.out _ HA1.out).mono ?_; rintro e w2 ⟨rfl, b2⟩; have B2 := Lib.hid b2; clear b2))
          go_meet
          exact ⟨by rw [HRB'.out], B2⟩
      · have t1 : ((N : Int) != Z) = true := by simpa using h1
        have HRB' : Hid (RB = true) := Lib.hid (by rw [HRB.out, t1, decide_eq_true h0]; simp)
        clear h0 h1 HRB
        go_wp2_with (go_at_call 60; refine (HZ.out _).mono ?_; rintro e w2 ⟨rfl, rfl⟩)
        go_meet
        exact ⟨by rw [HRB'.out], Lib.hid (Below.refl _ _)⟩
    · have t0 : ¬ (0 : Int) < (N : Int) := by omega
      by_cases h2 : ME = 0
      · have t2 : (ME != 0) = false := by simp [h2]
        have HRB' : Hid (RB = (M.ad != a)) := Lib.hid (by rw [HRB.out, t2, decide_eq_false h0]; simp)
        clear h0 h2 HRB
        go_wp2_with (go_at_call 61; refine (HC.out _ HA1.out).mono ?_; rintro e w2 ⟨rfl, b2⟩; have k2 := (H5.out.below b2).cell 2 _ rfl; have m0 := (H6.out.below b2).cell 0 _ rfl; have B2 := Lib.hid b2; clear b2)
        go_meet
        exact ⟨by rw [HRB'.out], B2⟩
      · have t2 : (ME != 0) = true := by simpa using h2
        have HRB' : Hid (RB = true) := Lib.hid (by rw [HRB.out, t2]; simp)
        clear h0 h2 HRB
        go_wp2_with (go_at_call 61; refine (HC.out _ HA1.out).mono ?_; rintro e w2 ⟨rfl, b2⟩; have B2 := Lib.hid b2; clear b2)
        go_meet
        exact ⟨by rw [HRB'.out], B2⟩
  case rest =>
  obtain ⟨rfl, B2⟩ := hcut
  have H5 := Lib.hid (H5.out.below B2.out)
  have H6 := Lib.hid (H6.out.below B2.out)
  have HB := Lib.hid (chain HB.out B2.out)
  have lz : w.heap.size + 2 ≤ wc.heap.size := Nat.le_trans lz B2.out.size
  clear HC HZ HRB B2
  cases RB with
  | true =>
    have E := E1.out rfl
    go_wp2_with fail
    go_ret2
    exact rsmp_out E (by decide) HB.out
  | false =>
  obtain ⟨hnz, he, ha⟩ := HN.out rfl
  by_cases hq : q < 1 ∨ 31 < q
  · have E := E2.out rfl hq
    clear hnz he ha
    rcases hq with hq | hq
    · go_wp2_with fail
      go_ret2
      exact rsmp_out E (by decide) HB.out
    · by_cases hq1 : q < 1
      · omega
      · clear hq1
        have q1 : ¬ q < 1 := by omega
        go_wp2_with fail
        go_ret2
        exact rsmp_out E (by decide) HB.out
  have E := Lib.hid (E3.out rfl hq)
  have hxy := ok_xy he
  have q1 : ¬ q < 1 := by omega
  have q2 : ¬ 31 < q := by omega
  have HFi := Lib.hid (fun V => Rf.rFits_any n g a M.x M.y V)
  have HK := Lib.hid (fun V => rOf_any M.kd V)
  unfold parts at HK
  rw [show kE M.kd = 0 by unfold kE; rw [hxy.2.2.2.1]; rfl] at HK
  have HQ0 : Hid (¬ (q < 1 ∨ 31 < q)) := Lib.hid hq
  have HE := Lib.hid he
  have HNZ := Lib.hid hnz
  obtain ⟨V0, hV0⟩ : ∃ x, Mo.vE n g a M.x M.y = x := ⟨_, rfl⟩
  rw [hV0] at E HFi
  have HV0 := Lib.hid hV0
  obtain ⟨zI, hI⟩ : ∃ z, pI M.kd = z := ⟨_, rfl⟩
  obtain ⟨zQ, hzQ⟩ : ∃ z, pQ M.kd = z := ⟨_, rfl⟩
  obtain ⟨zV', hzV⟩ : ∃ z, pV M.kd = z := ⟨_, rfl⟩
  obtain ⟨zF, hzF⟩ : ∃ z, pF M.kd = z := ⟨_, rfl⟩
  obtain ⟨zC, hzC⟩ : ∃ z, pC M.kd = z := ⟨_, rfl⟩
  rw [hI, hzQ, hzV, hzF, hzC] at HK
  rw [hzV] at E
  have HI := Lib.hid hI
  have HzQ := Lib.hid hzQ
  have HzV := Lib.hid hzV
  have HzF := Lib.hid hzF
  clear hq he hnz ha hV0 hI hzQ hzV hzF hzC hxy E1 E2 E3 HN
  have m1 := H6.out.cell 1 _ rfl
  go_wp2_with fail
  refine (HK.out _).mono ?_
  rintro e w3 ⟨rfl, b3⟩
  have b4 := (Below.refl w3.heap.size w3).alloc (Nat.le_refl _) (.cells #[.bool zI, .bool zQ, .bool zV', .bool zF, .bool zC] 67)
  have HP := Lib.hid (At.new w3 #[.bool zI, .bool zQ, .bool zV', .bool zF, .bool zC] 67)
  have H5 := Lib.hid ((H5.out.below b3).below b4)
  have H6 := Lib.hid ((H6.out.below b3).below b4)
  have HB := Lib.hid (chain (chain HB.out b3) b4)
  have lz : w.heap.size + 2 ≤ w3.heap.size := Nat.le_trans lz b3.size
  clear b3 b4 m1 HK q1 q2
  have s0 := H5.out.cell 0 _ rfl
  have s1 := H5.out.cell 1 _ rfl
  have s2 := H5.out.cell 2 _ rfl
  have m3 := H6.out.cell 3 _ rfl
  have m4 := H6.out.cell 4 _ rfl
  go_upto_region 9 with fail
  generalize w3.alloc (.cells #[.bool zI, .bool zQ, .bool zV', .bool zF, .bool zC] 67) = W4 at *
  generalize w3.heap.size = p13 at *
  go_wp2_with fail
  refine (HFi.out _).mono ?_
  rintro e w5 ⟨rfl, b5⟩
  have H5 := Lib.hid (H5.out.below b5)
  have H6 := Lib.hid (H6.out.below b5)
  have HP := Lib.hid (HP.out.below b5)
  have HB := Lib.hid (chain HB.out b5)
  have lP : p13 < w5.heap.size := HP.out.lt
  clear b5 s0 s1 s2 m3 m4 HFi
  have s0 := H5.out.cell 0 _ rfl
  have p1 := HP.out.cell 1 _ rfl
  have p2 := HP.out.cell 2 _ rfl
  have m2 := H6.out.cell 2 _ rfl
  by_cases hv : zV' = true ∧ V0 ≠ 0
  · obtain ⟨rfl, hv0⟩ := hv
    have t1 : (V0 != 0) = true := by simpa using hv0
    have E' : smE M n g a N q = V0 := by rw [E.out, if_pos ⟨rfl, hv0⟩]
    have HV1 := Lib.hid hv0
    clear hv0
    go_wp2_with fail
    go_ret2
    exact rsmp_out E' HV1.out HB.out
  have E' : Hid (smE M n g a N q = 0) := Lib.hid (by rw [E.out, if_neg hv])
  have HV : Hid (zV' = false ∨ V0 = 0) := Lib.hid (by cases zV' <;> simp_all)
  clear hv E
  go_upto_region 10 with fail
  go_cut [83] (fun u wx => u = .bool false ∧ wx = w5)
  case first =>
    cases zV' with
    | false => (go_wp2_with fail; go_meet; exact ⟨rfl, rfl⟩)
    | true =>
      have t1 : (V0 != 0) = false := by simpa using HV.out
      go_wp2_with fail
      go_meet
      exact ⟨rfl, rfl⟩
  case rest =>
  obtain ⟨rfl, rfl⟩ := hcut
  have HQ : Hid ((if zQ = true then M.qt else q) = qq M q) := Lib.hid (by unfold qq; rw [HzQ.out])
  have hqq := qq_ok HE.out HQ0.out
  have hok3 := (ok_parts HE.out).2.2
  have hxy := ok_xy HE.out
  have hv0 : Mo.vE n g a M.x M.y = 0 := by
    cases h : zV' with
    | false =>
      obtain ⟨e1, e2⟩ := hxy.2.2.1 (by rw [HzV.out, h])
      rw [e1, e2]; exact v00 HCE.out
    | true =>
      rcases HV.out with h2 | h2
      · rw [h] at h2; cases h2
      · rw [HV0.out, h2]
  have hfa : ∀ i, 0 ≤ aF N f i ∧ aF N f i ≤ 255 := fun i => by
    unfold aF
    split
    · show (0 : Int) ≤ 128 ∧ (128 : Int) ≤ 255; omega
    · exact HF.out i
  have haN : ((aN N n : Nat) : Int) = zV n := by
    have hc := HCE.out
    unfold aN
    rcases HNZ.out with h | h
    · rw [if_pos h]; rcases cE_n hc with rfl | rfl <;> rfl
    · rw [if_neg (fun h0 => by subst h0; rcases cE_n hc with rfl | rfl <;> simp [zV] at h)]; exact h
  have HAh := Lib.hid (fun V h => rahead_any fa N fc f n V h)
  have HPR : Hid (zI = false → ∀ (k : Nat) (V : World) (vf : Value), k < 6 → Sl .u8 V vf (aN N n) (aF N f) → Calls Tryz.prog 66 #[vf, sp n g a, mv M vb, .int .i64 ((k : Int) + 1), .agg #[.bool false, .bool zQ, .bool zV', .bool zF, .bool zC]] V fun e w' => ∃ v, e = .returned v ∧ Res .u8 V.heap.size w' v 64 (pP M n g a (aF N f) k) ∧ Below V.heap.size V w') := Lib.hid (fun h k V vf hk hs => by
    have := rpred_any M vb vf (aN N n) (aF N f) n g a k zQ zV' zC V hs hfa hk HCE.out haN hv0 hxy.1 hxy.2.1 (by rw [HI.out, h])
    rw [HzF.out] at this
    exact this)
  have HRS : Hid (∀ (V : World) (j : Nat), j < M.m → Pl V (.slice (M.q j) (M.nn j) (M.cc j)) (M.nn j) (M.r j) (M.l j) → M.nn j ≤ 1000 →
      Calls Tryz.prog 67 #[bv (M.dc j) (M.q j) (M.nn j) (M.cc j), .int .i64 (qq M q), .bool (pI M.kd)] V fun e w' => ∃ v, e = .returned (.tuple #[v, .int .i64 0]) ∧ Res .i64 V.heap.size w' v 64 (Co.invC (wF (M.dc j) (M.nn j) (M.r j) (M.l j) (pI M.kd) (qq M q))) ∧ Below V.heap.size V w') := Lib.hid (fun V j hj hp hn => by
    have := rResidue_any (M.dc j) (M.q j) (M.nn j) (M.cc j) (M.r j) (M.l j) (pI M.kd) (qq M q) hn V hp
    have e0 : rsE (M.dc j) (M.nn j) (M.r j) (M.l j) (pI M.kd) (qq M q) = 0 := by
      unfold rsE
      rw [if_neg (by rw [hok3 j hj]; simp), if_neg (by omega)]
    rw [e0, show rsN (M.dc j) (M.nn j) (M.r j) (M.l j) (pI M.kd) (qq M q) = 64 from if_pos e0] at this
    exact this)
  have hokR : ∀ j, Pa.okR (Co.invC (wF (M.dc j) (M.nn j) (M.r j) (M.l j) (pI M.kd) (qq M q))) 64 := fun j t ht => by
    have := inv_small _ (ok_v _ (wF_bd (M.dc j) (M.nn j) (M.r j) (M.l j) (pI M.kd) (qq M q) hqq.1)) t ht
    omega
  have HAD : Hid (∀ (V : World) (i j : Nat) (va vr : Value), Sl .u8 V va 64 (pP M n g a (aF N f) i) → Sl .i64 V vr 64 (Co.invC (wF (M.dc j) (M.nn j) (M.r j) (M.l j) (pI M.kd) (qq M q))) →
      Calls Tryz.prog 69 #[va, vr] V fun e w' => ∃ v, e = .returned (.tuple #[v, .int .i64 0]) ∧ Res .u8 V.heap.size w' v 64 (Pa.addF (pP M n g a (aF N f) i) (Co.invC (wF (M.dc j) (M.nn j) (M.r j) (M.l j) (pI M.kd) (qq M q)))) ∧ Below V.heap.size V w') := Lib.hid (fun V i j va vr h1 h2 => by
    have := Pa.rAdd_any va vr 64 64 _ _ V h1 h2 (fun t _ => pP_bd M n g a hfa i t)
    have e0 : Pa.addE 64 64 (Co.invC (wF (M.dc j) (M.nn j) (M.r j) (M.l j) (pI M.kd) (qq M q))) = 0 := by
      unfold Pa.addE
      rw [if_neg (by omega), if_pos (hokR j)]
    rw [e0, show Pa.addN 64 64 (Co.invC (wF (M.dc j) (M.nn j) (M.r j) (M.l j) (pI M.kd) (qq M q))) = 64 from if_pos e0] at this
    exact this)
  have HFL : Hid (∀ (V : World) (j : Nat) (vr : Value), Sl .i64 V vr 64 (Co.invC (wF (M.dc j) (M.nn j) (M.r j) (M.l j) (pI M.kd) (qq M q))) →
      Calls Tryz.prog 68 #[vr] V fun e w' => ∃ v, e = .returned (.tuple #[v, .int .i64 0]) ∧ Res .u8 V.heap.size w' v 64 (Pa.addF (fun _ => 0) (Co.invC (wF (M.dc j) (M.nn j) (M.r j) (M.l j) (pI M.kd) (qq M q)))) ∧ Below V.heap.size V w') := Lib.hid (fun V j vr h2 => by
    have := Pa.rFlat_any vr 64 _ V h2
    have e0 : Pa.addE 64 64 (Co.invC (wF (M.dc j) (M.nn j) (M.r j) (M.l j) (pI M.kd) (qq M q))) = 0 := by
      unfold Pa.addE
      rw [if_neg (by omega), if_pos (hokR j)]
    rw [e0, show Pa.addN 64 64 (Co.invC (wF (M.dc j) (M.nn j) (M.r j) (M.l j) (pI M.kd) (qq M q))) = 64 from if_pos e0] at this
    exact this)
  have HPI : Hid (zI = true → ∀ i, pP M n g a (aF N f) i = fun _ => 0) := Lib.hid (fun h i => by unfold pP; rw [if_pos (by rw [HI.out, h])])
  have HIH : Hid (zI = true → ∀ i : Nat, i < 6 → hasP M.pt ((i : Int) + 1) = true) := Lib.hid (fun h => all_has HE.out (by rw [HI.out, h]))
  obtain ⟨J, hJ⟩ : ∃ J, jj M.pt = J := ⟨_, rfl⟩
  have J0 : Hid (J 0 = 0) := Lib.hid (by rw [← hJ]; rfl)
  have HJB : Hid (∀ i : Nat, J i ≤ i) := Lib.hid (by rw [← hJ]; exact fun i => by have := cntP_bd M.pt i; unfold jj; omega)
  have HJL : Hid (∀ i : Nat, i < 6 → hasP M.pt ((i : Int) + 1) = true → J i < M.m) := Lib.hid (by rw [← hJ]; exact fun i => jj_lt HE.out i)
  have HJ1 : Hid (∀ i : Nat, hasP M.pt ((i : Int) + 1) = true → J (i + 1) = J i + 1) := Lib.hid (by rw [← hJ]; exact fun i => jj_step M.pt i)
  have HJ2 : Hid (∀ i : Nat, hasP M.pt ((i : Int) + 1) = false → J (i + 1) = J i) := Lib.hid (by rw [← hJ]; exact fun i => jj_stay M.pt i)
  obtain ⟨PP, hPP⟩ : ∃ PP, pP M n g a (aF N f) = PP := ⟨_, rfl⟩
  obtain ⟨Q, hQQ⟩ : ∃ Q, qq M q = Q := ⟨_, rfl⟩
  obtain ⟨RJ, hRJ⟩ : ∃ RJ : Nat → Nat → Int, (fun j => Co.invC (wF (M.dc j) (M.nn j) (M.r j) (M.l j) (pI M.kd) Q)) = RJ := ⟨_, rfl⟩
  have hRJ' : ∀ j, Co.invC (wF (M.dc j) (M.nn j) (M.r j) (M.l j) (pI M.kd) Q) = RJ j := fun j => by rw [← hRJ]
  obtain ⟨SS, hSS⟩ : ∃ SS, smp M n g a (aF N f) q = SS := ⟨_, rfl⟩
  have HSY : Hid (∀ i : Nat, hasP M.pt ((i : Int) + 1) = true → SS i = Pa.addF (PP i) (RJ (J i))) := Lib.hid (fun i h => by
    rw [← hSS]; unfold smp; rw [if_pos h, hPP]; unfold rR; rw [hQQ, hJ, hRJ'])
  have HSN : Hid (∀ i : Nat, hasP M.pt ((i : Int) + 1) = false → SS i = PP i) := Lib.hid (fun i h => by
    rw [← hSS]; unfold smp; rw [if_neg (by simp [h]), hPP])
  rw [hPP] at HPR HPI HAD
  rw [hQQ] at HRS HAD HFL HQ
  simp only [hRJ'] at HRS HAD HFL
  rw [HI.out] at HRS
  have HSS := Lib.hid hSS
  obtain ⟨F0, hF0⟩ : ∃ F, aF N f = F := ⟨_, rfl⟩
  obtain ⟨N0, hN0⟩ : ∃ x, aN N n = x := ⟨_, rfl⟩
  rw [hF0, hN0] at HPR HAh
  clear hJ hPP hQQ hRJ hRJ' hSS hF0 hN0 hxy hv0 hfa haN hqq hok3 hokR HF HCE HE HNZ HV HV0 HI HzQ HzV HzF HQ0
  clear p2
  go_upto_if 86 with fail
  go_cut [3] (fun u wx => u = .int .i64 Q ∧ wx = wc)
  case first =>
    have HQ := HQ.out
    cases zQ with
    | true => (go_wp2_with fail; go_meet; exact ⟨by rw [← HQ]; rfl, rfl⟩)
    | false => (go_wp2_with fail; go_meet; exact ⟨by rw [← HQ]; rfl, rfl⟩)
  case rest =>
  obtain ⟨rfl, rfl⟩ := hcut
  clear HQ m2 p1
  have HSl1 := Lib.hid (HSl.out.below HB.out)
  go_wp2_with fail
  refine (HAh.out _ HSl1.out).mono ?_
  rintro e w6 ⟨vf, rfl, hSl, _, b6⟩
  have HPic := Lib.hid hSl
  have G5 := Lib.hid (H5.out.below b6)
  have G6 := Lib.hid (H6.out.below b6)
  have GP := Lib.hid (HP.out.below b6)
  have GB := Lib.hid (chain HB.out b6)
  clear hSl b6 s0 HSl HSl1 HAh
  have HA6 := Lib.hid (HA.out.below GB.out)
  obtain ⟨qa, ca, hvb, _, _, hbl⟩ := id HA6.out
  subst hvb
  have HBl := Lib.hid hbl
  clear hbl HA HA6
  have zB := GB.out.size
  obtain ⟨i0, hi, hz0, hz1, hz2⟩ := info_parts info_bytes
  go_wp2_with fail
  go_loopw [18, 17, 16] (fun x j o wr => ∃ (k : Nat) (V : Nat → Value), k ≤ 6 ∧ x = .int .i64 ((k : Int) + 1) ∧ j = .int .i64 ((J k : Nat) : Int) ∧ Hid (Out wr.heap.size w6.heap.size wr o k V SS) ∧ Hid (Below w6.heap.size w6 wr)) (fun x _ _ _ => 7 - (intOf x).toNat)
  case atStart => exact ⟨0, fun _ => undef, by omega, rfl, by rw [J0.out]; rfl, Lib.hid ⟨World.ownsRow_nil _ _ _ _, fun i hi => by omega, fun _ => rfl, Nat.le_refl _, fun i hi => by omega, fun i hi => by omega⟩, Lib.hid (Below.refl _ _)⟩
  case round =>
    obtain ⟨k, V, hk, rfl, rfl, HO, HBB⟩ := hrel
    by_cases hk6 : k < 6
    · have kb : (k : Int) + 1 ≤ 6 := by omega
      have ek : IntKind.i64.wrap ((k : Int) + 1 + 1) = (k : Int) + 1 + 1 := IntWalk.i64_in _ (by omega)
      have hj6 := HJB.out k
      have ej : IntKind.i64.wrap (((J k : Nat) : Int) + 1) = ((J k : Nat) : Int) + 1 := IntWalk.i64_in _ (by omega)
      have HHas := Lib.hid (fun V => rHas_any M.pt ((k : Int) + 1) V (by omega))
      have HSp := Lib.hid (G5.out.below HBB.out)
      have HMa := Lib.hid (G6.out.below HBB.out)
      have HPa := Lib.hid (GP.out.below HBB.out)
      have sz6 := HBB.out.size
      have m5 := HMa.out.cell 5 _ rfl
      have p0 := HPa.out.cell 0 _ rfl
      cases zI with
      | true =>
        have hh := HIH.out rfl k hk6
        have HPk := Lib.hid (HPI.out rfl k)
        have hlt := HJL.out k hk6 hh
        have HJS := Lib.hid (HJ1.out k hh)
        have HSM := Lib.hid (HSY.out k hh)
        have HH := Lib.hid hh
        rcases HBl.out with h0 | ⟨b, o, rfl, hI⟩
        · omega
        obtain ⟨d1, d2, hp, hn⟩ := hI (J k) hlt
        have D1 := Lib.hid d1
        have D2 := Lib.hid d2
        have DP := Lib.hid hp
        have DN := Lib.hid hn
        have lb := World.block_lt_of_cell? _ _ d1
        have kj : (0 : Int) ≤ ((J k : Nat) : Int) ∧ ((J k : Nat) : Int) < (M.m : Int) := by omega
        clear d1 d2 hp hn hI hh
        go_upto_region 25 with (go_at_call 65; refine (HHas.out _).mono ?_; rintro e w2 ⟨rfl, rfl⟩; rw [HH.out])
        have HRR := Lib.hid (HRS.out wr.drew (J k) hlt (DP.out.below (HBB.out.drew)) DN.out)
        have m6 := HMa.out.cell 6 _ rfl
        have e1 := (HBB.out.cell (p := ⟨b, o + J k * 2, none⟩) lb).trans D1.out
        have e2 := (HBB.out.cell (p := ⟨b, o + J k * 2 + 1, none⟩) lb).trans D2.out
        have lb2 := World.block_lt_of_cell? _ _ e1
        have lp := HPa.out.lt
        have lm := HMa.out.lt
        have sz7 := HBB.out.size
        go_region_held3 (fun w' => w'.cell? ⟨w.heap.size + 1, 6, none⟩ = some (.slice (some ⟨b, o, none⟩) M.m ca) ∧ w'.cell? ⟨b, o + J k * 2, none⟩ = some (.int .i64 (M.dc (J k))) ∧ w'.cell? ⟨b, o + J k * 2 + 1, none⟩ = some (.slice (M.q (J k)) (M.nn (J k)) (M.cc (J k))) ∧ w'.cell? ⟨p13, 0, none⟩ = some (.bool true))
          (first | exact ⟨m6, e1, e2, p0⟩ | exact S3.out)
          (first | (go_at_call 67; refine HRR.out.mono ?_; rintro e w3 ⟨v3, rfl, hR3, b3⟩; have S3 := Lib.hid (And.intro ((b3.cell (p := ⟨w.heap.size + 1, 6, none⟩) lm).trans m6) (And.intro ((b3.cell (p := ⟨b, o + J k * 2, none⟩) lb2).trans e1) (And.intro ((b3.cell (p := ⟨b, o + J k * 2 + 1, none⟩) lb2).trans e2) ((b3.cell (p := ⟨p13, 0, none⟩) lp).trans p0)))); have HR3 := Lib.hid hR3; have b3' := chain (Below.refl wr.heap.size wr).drew b3; have HO := Lib.hid (HO.out.below b3'); have HBB := Lib.hid (chain HBB.out b3'); clear hR3 b3 b3'))
        clear m6 e1 e2 p0 m5
        have p0 := S3.out.2.2.2
        have sz9 := HBB.out.size
        go_wp2_with (first
          | (go_at_call 68; go_loud (refine (HFL.out _ (J k) _ HR3.out.sl).mono ?_; rintro e w4 ⟨v4, rfl, hR4, b4⟩; rcases hR4 with ⟨h0, _⟩ | ⟨g4, c4, rfl, r1, r2, r3, r4, r5⟩; (exact absurd h0 (by decide)); have HG4 : Hid (wr.heap.size ≤ blk (.slice (some ⟨g4, 0, none⟩) 64 c4)) := Lib.hid (Nat.le_trans HO.out.le r1); have HV : Hid (Res .u8 w6.heap.size w4 (.slice (some ⟨g4, 0, none⟩) 64 c4) 64 (SS k)) := Lib.hid (by rw [HSM.out, HPk.out]; exact .inr ⟨g4, c4, rfl, by omega, r2, r3, r4, r5⟩); have HO := Lib.hid (HO.out.below b4); have HBB := Lib.hid (chain HBB.out b4); have sz8 := HBB.out.size; clear b4 r1 r2 r3 r4 r5 p0))
          | (at_builtin; refine wpList_append_own _ rfl _ _ 33 rfl w6.heap.size 30 i0 (.slice none 0 0) 1 24 Tryz.underlying33 hi hz0 hz1 hz2 rfl (by decide) _ _ _ rfl (HO.out.own.alloc _) ⟨w4.heap.size, 0, none⟩ 1 1 [.slice (some ⟨g4, 0, none⟩) 64 c4] rfl rfl (cell_one_new _ _ _) (by simp [Value.oneCell']) (by unfold maxLen; omega) (by omega) (by simp; omega) ?_; intro v' w5 hown2 hgr hnil))
        have HB5 : Hid (Below w6.heap.size w6 w5) := Lib.hid ((HBB.out.alloc sz8 _).grown hgr (by simp; omega) (fun q hq => (HO.out.own.lt q hq).1))
        have HO5 := Lib.hid (HO.out.snoc HV.out HG4.out hown2 hgr)
        clear hown2 hgr hnil
        go_roundw
        case rel => exact ⟨k + 1, fun i => if i = k then .slice (some ⟨g4, 0, none⟩) 64 c4 else V i, by omega, by go_num, by rw [HJS.out]; rfl, HO5, HB5⟩
        case measure => simp [intOf]; omega
      | false =>
        have CALL := Lib.hid (fun V h => HPR.out rfl k V vf hk6 h)
        by_cases hh : hasP M.pt ((k : Int) + 1) = true
        · skip
          have hlt := HJL.out k hk6 hh
          have HJS := Lib.hid (HJ1.out k hh)
          have HSM := Lib.hid (HSY.out k hh)
          have HH := Lib.hid hh
          rcases HBl.out with h0 | ⟨b, o, rfl, hI⟩
          · omega
          obtain ⟨d1, d2, hp, hn⟩ := hI (J k) hlt
          have D1 := Lib.hid d1
          have D2 := Lib.hid d2
          have DP := Lib.hid hp
          have DN := Lib.hid hn
          have lb := World.block_lt_of_cell? _ _ d1
          have kj : (0 : Int) ≤ ((J k : Nat) : Int) ∧ ((J k : Nat) : Int) < (M.m : Int) := by omega
          clear d1 d2 hp hn hI hh
          have s0 := HSp.out.cell 0 _ rfl
          have s1 := HSp.out.cell 1 _ rfl
          have s2 := HSp.out.cell 2 _ rfl
          have m0 := HMa.out.cell 0 _ rfl
          have m1 := HMa.out.cell 1 _ rfl
          have m2 := HMa.out.cell 2 _ rfl
          have m3 := HMa.out.cell 3 _ rfl
          have m4 := HMa.out.cell 4 _ rfl
          have m6 := HMa.out.cell 6 _ rfl
          have p1 := HPa.out.cell 1 _ rfl
          have p2 := HPa.out.cell 2 _ rfl
          have p3 := HPa.out.cell 3 _ rfl
          have p4 := HPa.out.cell 4 _ rfl
          have HPk := Lib.hid (HPic.out.below HBB.out)
          go_upto_region 24 with (first
            | (go_at_call 65; refine (HHas.out _).mono ?_; rintro e w2 ⟨rfl, rfl⟩; rw [HH.out])
            | (go_at_call 66; refine (CALL.out _ HPk.out).mono ?_; rintro e w1 ⟨v1, rfl, hR, b1⟩; have HR := Lib.hid (Res.base hR sz6); have HSp := Lib.hid (HSp.out.below b1); have HMa := Lib.hid (HMa.out.below b1); have HPa := Lib.hid (HPa.out.below b1); have HO := Lib.hid (HO.out.below b1); have HBB := Lib.hid (chain HBB.out b1); clear hR b1 s0 s1 s2 m0 m1 m2 m3 m4 m5 m6 p0 p1 p2 p3 p4; have p0 := HPa.out.cell 0 _ rfl))
          go_upto_region 25 with fail
          have HRR := Lib.hid (HRS.out w1.drew (J k) hlt (DP.out.below (HBB.out.drew)) DN.out)
          have m6 := HMa.out.cell 6 _ rfl
          have e1 := (HBB.out.cell (p := ⟨b, o + J k * 2, none⟩) lb).trans D1.out
          have e2 := (HBB.out.cell (p := ⟨b, o + J k * 2 + 1, none⟩) lb).trans D2.out
          have lb2 := World.block_lt_of_cell? _ _ e1
          have lp := HPa.out.lt
          have lm := HMa.out.lt
          have sz7 := HBB.out.size
          go_region_held3 (fun w' => w'.cell? ⟨w.heap.size + 1, 6, none⟩ = some (.slice (some ⟨b, o, none⟩) M.m ca) ∧ w'.cell? ⟨b, o + J k * 2, none⟩ = some (.int .i64 (M.dc (J k))) ∧ w'.cell? ⟨b, o + J k * 2 + 1, none⟩ = some (.slice (M.q (J k)) (M.nn (J k)) (M.cc (J k))) ∧ w'.cell? ⟨p13, 0, none⟩ = some (.bool false))
            (first | exact ⟨m6, e1, e2, p0⟩ | exact S3.out)
            (first | (go_at_call 67; refine HRR.out.mono ?_; rintro e w3 ⟨v3, rfl, hR3, b3⟩; have S3 := Lib.hid (And.intro ((b3.cell (p := ⟨w.heap.size + 1, 6, none⟩) lm).trans m6) (And.intro ((b3.cell (p := ⟨b, o + J k * 2, none⟩) lb2).trans e1) (And.intro ((b3.cell (p := ⟨b, o + J k * 2 + 1, none⟩) lb2).trans e2) ((b3.cell (p := ⟨p13, 0, none⟩) lp).trans p0)))); have HR3 := Lib.hid hR3; have b3' := chain (Below.refl w1.heap.size w1).drew b3; have HO := Lib.hid (HO.out.below b3'); have HR := Lib.hid (HR.out.below b3'); have HBB := Lib.hid (chain HBB.out b3'); clear hR3 b3 b3'))
          clear m6 e1 e2 p0
          have p0 := S3.out.2.2.2
          have sz9 := HBB.out.size
          have sz8 := HBB.out.size
          have HADD := Lib.hid (HAD.out _ k (J k) _ _ HR.out.sl HR3.out.sl)
          go_wp2_with (first
            | (go_at_call 69; go_loud (refine (HADD.out).mono ?_; rintro e w4 ⟨v4, rfl, hR4, b4⟩; rcases hR4 with ⟨h0, _⟩ | ⟨g4, c4, rfl, r1, r2, r3, r4, r5⟩; (exact absurd h0 (by decide)); have HG4 : Hid (wr.heap.size ≤ blk (.slice (some ⟨g4, 0, none⟩) 64 c4)) := Lib.hid (Nat.le_trans HO.out.le r1); have HV : Hid (Res .u8 w6.heap.size w4 (.slice (some ⟨g4, 0, none⟩) 64 c4) 64 (SS k)) := Lib.hid (by rw [HSM.out]; exact .inr ⟨g4, c4, rfl, by omega, r2, r3, r4, r5⟩); have HO := Lib.hid (HO.out.below b4); have HBB := Lib.hid (chain HBB.out b4); have sz8 := HBB.out.size; clear b4 r1 r2 r3 r4 r5 p0))
            | (at_builtin; refine wpList_append_own _ rfl _ _ 33 rfl w6.heap.size 30 i0 (.slice none 0 0) 1 24 Tryz.underlying33 hi hz0 hz1 hz2 rfl (by decide) _ _ _ rfl (HO.out.own.alloc _) ⟨w4.heap.size, 0, none⟩ 1 1 [.slice (some ⟨g4, 0, none⟩) 64 c4] rfl rfl (cell_one_new _ _ _) (by simp [Value.oneCell']) (by unfold maxLen; omega) (by omega) (by simp; omega) ?_; intro v' w5 hown2 hgr hnil))
          have HB5 : Hid (Below w6.heap.size w6 w5) := Lib.hid ((HBB.out.alloc sz8 _).grown hgr (by simp; omega) (fun q hq => (HO.out.own.lt q hq).1))
          have HO5 := Lib.hid (HO.out.snoc HV.out HG4.out hown2 hgr)
          clear hown2 hgr hnil
          go_roundw
          case rel => exact ⟨k + 1, fun i => if i = k then .slice (some ⟨g4, 0, none⟩) 64 c4 else V i, by omega, by go_num, by rw [HJS.out]; rfl, HO5, HB5⟩
          case measure => simp [intOf]; omega
        · have hh : hasP M.pt ((k : Int) + 1) = false := by simpa using hh
          have HJS := Lib.hid (HJ2.out k hh)
          have HSM := Lib.hid (HSN.out k hh)
          have HH := Lib.hid hh
          clear hh
          have s0 := HSp.out.cell 0 _ rfl
          have s1 := HSp.out.cell 1 _ rfl
          have s2 := HSp.out.cell 2 _ rfl
          have m0 := HMa.out.cell 0 _ rfl
          have m1 := HMa.out.cell 1 _ rfl
          have m2 := HMa.out.cell 2 _ rfl
          have m3 := HMa.out.cell 3 _ rfl
          have m4 := HMa.out.cell 4 _ rfl
          have m6 := HMa.out.cell 6 _ rfl
          have p1 := HPa.out.cell 1 _ rfl
          have p2 := HPa.out.cell 2 _ rfl
          have p3 := HPa.out.cell 3 _ rfl
          have p4 := HPa.out.cell 4 _ rfl
          have HPk := Lib.hid (HPic.out.below HBB.out)
          go_wp2_with (first
            | (go_at_call 65; refine (HHas.out _).mono ?_; rintro e w2 ⟨rfl, rfl⟩; rw [HH.out])
            | (go_at_call 66; refine (CALL.out _ HPk.out).mono ?_; rintro e w1 ⟨v1, rfl, hR, b1⟩; rcases hR with ⟨h0, _⟩ | ⟨g4, c4, rfl, r1, r2, r3, r4, r5⟩; (exact absurd h0 (by decide)); have HG4 : Hid (wr.heap.size ≤ blk (.slice (some ⟨g4, 0, none⟩) 64 c4)) := Lib.hid r1; have r1 := Nat.le_trans sz6 r1; have HV : Hid (Res .u8 w6.heap.size w1 (.slice (some ⟨g4, 0, none⟩) 64 c4) 64 (SS k)) := Lib.hid (by rw [HSM.out]; exact .inr ⟨g4, c4, rfl, r1, r2, r3, r4, r5⟩); have HSp := Lib.hid (HSp.out.below b1); have HMa := Lib.hid (HMa.out.below b1); have HPa := Lib.hid (HPa.out.below b1); have HO := Lib.hid (HO.out.below b1); have HBB := Lib.hid (chain HBB.out b1); have sz8 := HBB.out.size; clear b1 r1 r2 r3 r4 r5 s0 s1 s2 m0 m1 m2 m3 m4 m5 m6 p0 p1 p2 p3 p4)
            | (at_builtin; refine wpList_append_own _ rfl _ _ 33 rfl w6.heap.size 30 i0 (.slice none 0 0) 1 24 Tryz.underlying33 hi hz0 hz1 hz2 rfl (by decide) _ _ _ rfl (HO.out.own.alloc _) ⟨w1.heap.size, 0, none⟩ 1 1 [.slice (some ⟨g4, 0, none⟩) 64 c4] rfl rfl (cell_one_new _ _ _) (by simp [Value.oneCell']) (by unfold maxLen; omega) (by omega) (by simp; omega) ?_; intro v' w5 hown2 hgr hnil))
          have HB5 : Hid (Below w6.heap.size w6 w5) := Lib.hid ((HBB.out.alloc sz8 _).grown hgr (by simp; omega) (fun q hq => (HO.out.own.lt q hq).1))
          have HO5 := Lib.hid (HO.out.snoc HV.out HG4.out hown2 hgr)
          clear hown2 hgr hnil
          go_roundw
          case rel => exact ⟨k + 1, fun i => if i = k then .slice (some ⟨g4, 0, none⟩) 64 c4 else V i, by omega, by go_num, by rw [HJS.out], HO5, HB5⟩
          case measure => simp [intOf]; omega
    · have hk7 : k = 6 := by omega
      have kb : ¬ (k : Int) + 1 ≤ 6 := by omega
      clear hk hk6
      go_wp2_with fail
      go_ret2
      subst hk7
      exact rsmp_yes E'.out (by rw [HSS.out]; exact HO.out.six zB) (chain GB.out HBB.out)
theorem rSamples_any (hs : Sl .u8 w (.slice fa N fc) N f) (hf : ∀ i, 0 ≤ f i ∧ f i ≤ 255) (hb : M.at w vb) :
    Calls Tryz.prog 22 #[.slice fa N fc, sp n g a, mv M vb, .int .i64 q] w (rsmpPost M n g a N f q w) := by
  by_cases hc : cE n g a = 0
  · exact rsmp_on M vb fa N fc f n g a q w hs hf hc hb
  · refine (rsmp_no1 M vb fa N fc n g a q w hc).mono ?_
    rintro e w' ⟨rfl, h⟩
    exact rsmp_out (by unfold smE; rw [if_pos hc]) hc h
end
end Bu
end Go.Proofs.YtbmglemjfodfhaaGreat
namespace Go.Proofs.YtbmglemjfodfhaaGreat
open Go.RowKit
namespace Bu
open Bk Fr Pt Kd
section
set_option maxRecDepth 100000
set_option maxHeartbeats 4000000
set_option linter.unusedVariables false
variable (M : MB) (vb : Value) (b N R c : Nat) (fa : Option Addr) (NF fc : Nat) (f F : Nat → Int) (n g a q : Int) (w : World)
theorem rmac_no1 (hc : cE n g a ≠ 0) (ta : Option Addr) :
    Calls Tryz.prog 24 #[.slice ta N c, .slice fa NF fc, sp n g a, mv M vb, .int .i64 q] w fun e w' => e = .returned (.int .i64 (cE n g a)) ∧ Below w.heap.size w w' := by
  have HS := Lib.hid (fun V => Rf.rCorner_any n g a V)
  obtain ⟨E, hE⟩ : ∃ E, cE n g a = E := ⟨_, rfl⟩
  rw [hE] at HS hc
  rw [hE]
  have t1 : (E != 0) = true := by simpa using hc
  clear hc hE
  have HB := Lib.hid (((Below.refl w.heap.size w).alloc (Nat.le_refl _) (.cells #[.int .i64 n, .int .i64 g, .int .i64 a] 28)).alloc (by simp) (.cells #[.int .i64 M.ad, .int .i64 M.kd, .int .i64 M.qt, .int .i64 M.x, .int .i64 M.y, .int .i64 M.pt, vb] 24))
  have H5 : Hid (At _ _ _ _) := Lib.hid ((At.new w #[.int .i64 n, .int .i64 g, .int .i64 a] 28).below ((Below.refl _ _).alloc (Nat.le_refl _) (.cells #[.int .i64 M.ad, .int .i64 M.kd, .int .i64 M.qt, .int .i64 M.x, .int .i64 M.y, .int .i64 M.pt, vb] 24)))
  have k0 := H5.out.cell 0 _ rfl
  have k1 := H5.out.cell 1 _ rfl
  have k2 := H5.out.cell 2 _ rfl
  go_enter Tryz.func24, Tryz.ntmps24
  go_wp2_with (go_at_call 59; refine (HS.out _).mono ?_; rintro e w1 ⟨rfl, b1⟩; have HB := Lib.hid (chain HB.out b1); clear b1 H5 k0 k1 k2)
  go_ret
  exact ⟨rfl, HB.out⟩
theorem rmac_no2 (hc : cE n g a = 0) (hN : (N : Int) ≠ zV n) (ta : Option Addr) :
    Calls Tryz.prog 24 #[.slice ta N c, .slice fa NF fc, sp n g a, mv M vb, .int .i64 q] w fun e w' => e = .returned (.int .i64 2) ∧ Below w.heap.size w w' := by
  have HS := Lib.hid (fun V => Rf.rCorner_any n g a V)
  have HZ := Lib.hid (fun V => rsize_any n V)
  rw [hc] at HS
  obtain ⟨Z, hZ⟩ : ∃ Z, zV n = Z := ⟨_, rfl⟩
  rw [hZ] at HZ hN
  have t1 : ((N : Int) != Z) = true := by simpa using hN
  clear hc hZ hN
  have HB := Lib.hid (((Below.refl w.heap.size w).alloc (Nat.le_refl _) (.cells #[.int .i64 n, .int .i64 g, .int .i64 a] 28)).alloc (by simp) (.cells #[.int .i64 M.ad, .int .i64 M.kd, .int .i64 M.qt, .int .i64 M.x, .int .i64 M.y, .int .i64 M.pt, vb] 24))
  have H5 : Hid (At _ _ _ _) := Lib.hid ((At.new w #[.int .i64 n, .int .i64 g, .int .i64 a] 28).below ((Below.refl _ _).alloc (Nat.le_refl _) (.cells #[.int .i64 M.ad, .int .i64 M.kd, .int .i64 M.qt, .int .i64 M.x, .int .i64 M.y, .int .i64 M.pt, vb] 24)))
  have k0 := H5.out.cell 0 _ rfl
  have k1 := H5.out.cell 1 _ rfl
  have k2 := H5.out.cell 2 _ rfl
  go_enter Tryz.func24, Tryz.ntmps24
  go_wp2_with (first
    | (go_at_call 59; refine (HS.out _).mono ?_; rintro e w1 ⟨rfl, b1⟩; have HB := Lib.hid (chain HB.out b1); have k0 := (H5.out.below b1).cell 0 _ rfl; clear b1 H5 k1 k2)
    | (go_at_call 60; refine (HZ.out _).mono ?_; rintro e w2 ⟨rfl, rfl⟩))
  go_ret
  exact ⟨rfl, HB.out⟩
theorem rmac_no3 (hc : cE n g a = 0) (hN : (N : Int) = zV n) (ta : Option Addr) (hs : Sl .u8 w (.slice fa NF fc) NF F) (hf : ∀ i, 0 ≤ F i ∧ F i ≤ 255) (hb : M.at w vb) (he : smE M n g a NF q ≠ 0) :
    Calls Tryz.prog 24 #[.slice ta N c, .slice fa NF fc, sp n g a, mv M vb, .int .i64 q] w fun e w' => e = .returned (.int .i64 (smE M n g a NF q)) ∧ Below w.heap.size w w' := by
  have HS := Lib.hid (fun V => Rf.rCorner_any n g a V)
  have HZ := Lib.hid (fun V => rsize_any n V)
  have HM := Lib.hid (fun V h1 h2 => rSamples_any M vb fa NF fc F n g a q V h1 hf h2)
  unfold rsmpPost at HM
  rw [hc] at HS
  obtain ⟨Z, hZ⟩ : ∃ Z, zV n = Z := ⟨_, rfl⟩
  rw [hZ] at HZ hN
  obtain ⟨E, hE⟩ : ∃ E, smE M n g a NF q = E := ⟨_, rfl⟩
  rw [hE] at HM he ⊢
  have t1 : ((N : Int) != Z) = false := by simp [hN]
  have t2 : (E != 0) = true := by simpa using he
  clear hc hZ hN hE he hf
  have HB := Lib.hid (((Below.refl w.heap.size w).alloc (Nat.le_refl _) (.cells #[.int .i64 n, .int .i64 g, .int .i64 a] 28)).alloc (by simp) (.cells #[.int .i64 M.ad, .int .i64 M.kd, .int .i64 M.qt, .int .i64 M.x, .int .i64 M.y, .int .i64 M.pt, vb] 24))
  have HS1 := Lib.hid (hs.below HB.out)
  have HA1 := Lib.hid (hb.below HB.out)
  have H5 : Hid (At _ _ _ _) := Lib.hid ((At.new w #[.int .i64 n, .int .i64 g, .int .i64 a] 28).below ((Below.refl _ _).alloc (Nat.le_refl _) (.cells #[.int .i64 M.ad, .int .i64 M.kd, .int .i64 M.qt, .int .i64 M.x, .int .i64 M.y, .int .i64 M.pt, vb] 24)))
  have H6 : Hid (At _ _ _ _) := Lib.hid (At.new (w.alloc (.cells #[.int .i64 n, .int .i64 g, .int .i64 a] 28)) #[.int .i64 M.ad, .int .i64 M.kd, .int .i64 M.qt, .int .i64 M.x, .int .i64 M.y, .int .i64 M.pt, vb] 24)
  simp only [World.size_alloc] at H6
  have k0 := H5.out.cell 0 _ rfl
  have k1 := H5.out.cell 1 _ rfl
  have k2 := H5.out.cell 2 _ rfl
  clear hs hb
  go_enter Tryz.func24, Tryz.ntmps24
  go_upto_region 6 with (first
    | (go_at_call 59; refine (HS.out _).mono ?_; rintro e w1 ⟨rfl, b1⟩; have HB := Lib.hid (chain HB.out b1); have HS1 := Lib.hid (HS1.out.below b1); have HA1 := Lib.hid (HA1.out.below b1); have H5 := Lib.hid (H5.out.below b1); have H6 := Lib.hid (H6.out.below b1); clear b1 k0 k1 k2; have k0 := H5.out.cell 0 _ rfl)
    | (go_at_call 60; refine (HZ.out _).mono ?_; rintro e w2 ⟨rfl, rfl⟩))
  have k0 := H5.out.cell 0 _ rfl
  have k1 := H5.out.cell 1 _ rfl
  have k2 := H5.out.cell 2 _ rfl
  have m0 := H6.out.cell 0 _ rfl
  have m1 := H6.out.cell 1 _ rfl
  have m2 := H6.out.cell 2 _ rfl
  have m3 := H6.out.cell 3 _ rfl
  have m4 := H6.out.cell 4 _ rfl
  have m5 := H6.out.cell 5 _ rfl
  have m6 := H6.out.cell 6 _ rfl
  go_wp2_with (go_at_call 22; refine (HM.out _ HS1.out HA1.out).mono ?_; rintro e w2 ⟨v, rfl, _, _, b2⟩; have HB := Lib.hid (chain HB.out b2); clear b2 k0 k1 k2 m0 m1 m2 m3 m4 m5 m6)
  go_ret
  exact ⟨rfl, HB.out⟩
theorem rmac_yes (hA : Arr w .u8 b R f) (hR : N ≤ R) (h0 : 0 < R) (hRN : (N : Int) = zV n → R = N) (hc : cE n g a = 0) (hN : (N : Int) = zV n) (hs : Sl .u8 w (.slice fa NF fc) NF F) (hf : ∀ i, 0 ≤ F i ∧ F i ≤ 255) (hb : M.at w vb) (he : smE M n g a NF q = 0) :
    Calls Tryz.prog 24 #[.slice (some ⟨b, 0, none⟩) N c, .slice fa NF fc, sp n g a, mv M vb, .int .i64 q] w fun e w' => e = .returned (.int .i64 0) ∧ Arr w' .u8 b R (layS n g a (smp M n g a (aF NF F) q) f 6) ∧ w.grownBy w' (some b) := by
  have HS := Lib.hid (fun V => Rf.rCorner_any n g a V)
  have HZ := Lib.hid (fun V => rsize_any n V)
  have HM := Lib.hid (fun V h1 h2 => rSamples_any M vb fa NF fc F n g a q V h1 hf h2)
  unfold rsmpPost at HM
  rw [hc] at HS
  have hblt := hA.lt h0
  have HL : Hid (∀ (k : Nat) (V : World) (G : Nat → Int) (rg rc : Nat) (s : Nat → Int), k < 6 → Arr V .u8 b R G → Sl .u8 V (.slice (some ⟨rg, 0, none⟩) 64 rc) 64 s → b < rg →
      Calls Tryz.prog 70 #[.slice (some ⟨b, 0, none⟩) N c, .agg #[.int .i64 n, .int .i64 g, .int .i64 a], .int .i64 ((k : Int) + 1), .slice (some ⟨rg, 0, none⟩) 64 rc] V fun e w' => e = .returned (.int .i64 0) ∧ Arr w' .u8 b R (Pa.layN (pA n g a ((k : Int) + 1)).toNat (pS n g a ((k : Int) + 1)).toNat s G 64) ∧ V.grownBy w' (some b)) := Lib.hid (fun k V G rg rc s hk h1 h2 h3 => by
    have e0 := Pa.layE_ok (k := (k : Int) + 1) hc hN (rfl : (64 : Nat) = 64) (by omega)
    have := Pa.rLay_any b N R c (some ⟨rg, 0, none⟩) 64 rc G s n g a ((k : Int) + 1) V h1 hR h0 h2 (fun _ x e => by cases e; simp; omega) hRN
    rw [e0] at this
    refine this.mono ?_
    rintro e w' ⟨h4, h5, h6⟩
    unfold Pa.layG at h5
    rw [if_pos e0] at h5
    exact ⟨h4, h5, h6⟩)
  obtain ⟨S, hS⟩ : ∃ S, smp M n g a (aF NF F) q = S := ⟨_, rfl⟩
  obtain ⟨Z, hZ⟩ : ∃ Z, zV n = Z := ⟨_, rfl⟩
  rw [hZ] at HZ hN
  rw [he, hS] at HM
  rw [hS]
  have t1 : ((N : Int) != Z) = false := by simp [hN]
  clear hc hZ hN he hf hS hRN
  have HB := Lib.hid (((Below.refl w.heap.size w).alloc (Nat.le_refl _) (.cells #[.int .i64 n, .int .i64 g, .int .i64 a] 28)).alloc (by simp) (.cells #[.int .i64 M.ad, .int .i64 M.kd, .int .i64 M.qt, .int .i64 M.x, .int .i64 M.y, .int .i64 M.pt, vb] 24))
  have HS1 := Lib.hid (hs.below HB.out)
  have HA1 := Lib.hid (hb.below HB.out)
  have H5 : Hid (At _ _ _ _) := Lib.hid ((At.new w #[.int .i64 n, .int .i64 g, .int .i64 a] 28).below ((Below.refl _ _).alloc (Nat.le_refl _) (.cells #[.int .i64 M.ad, .int .i64 M.kd, .int .i64 M.qt, .int .i64 M.x, .int .i64 M.y, .int .i64 M.pt, vb] 24)))
  have H6 : Hid (At _ _ _ _) := Lib.hid (At.new (w.alloc (.cells #[.int .i64 n, .int .i64 g, .int .i64 a] 28)) #[.int .i64 M.ad, .int .i64 M.kd, .int .i64 M.qt, .int .i64 M.x, .int .i64 M.y, .int .i64 M.pt, vb] 24)
  simp only [World.size_alloc] at H6
  have HP := Lib.hid hA
  have k0 := H5.out.cell 0 _ rfl
  have k1 := H5.out.cell 1 _ rfl
  have k2 := H5.out.cell 2 _ rfl
  clear hs hb hA
  go_enter Tryz.func24, Tryz.ntmps24
  go_upto_region 6 with (first
    | (go_at_call 59; refine (HS.out _).mono ?_; rintro e w1 ⟨rfl, b1⟩; have HB := Lib.hid (chain HB.out b1); have HS1 := Lib.hid (HS1.out.below b1); have HA1 := Lib.hid (HA1.out.below b1); have H5 := Lib.hid (H5.out.below b1); have H6 := Lib.hid (H6.out.below b1); clear b1 k0 k1 k2; have k0 := H5.out.cell 0 _ rfl)
    | (go_at_call 60; refine (HZ.out _).mono ?_; rintro e w2 ⟨rfl, rfl⟩))
  have k0 := H5.out.cell 0 _ rfl
  have k1 := H5.out.cell 1 _ rfl
  have k2 := H5.out.cell 2 _ rfl
  have m0 := H6.out.cell 0 _ rfl
  have m1 := H6.out.cell 1 _ rfl
  have m2 := H6.out.cell 2 _ rfl
  have m3 := H6.out.cell 3 _ rfl
  have m4 := H6.out.cell 4 _ rfl
  have m5 := H6.out.cell 5 _ rfl
  have m6 := H6.out.cell 6 _ rfl
  have hz1 := HB.out.size
  go_wp2_with (go_at_call 22; refine (HM.out _ HS1.out HA1.out).mono ?_; rintro e w2 ⟨v, rfl, hv, _, b2⟩; obtain ⟨sg, sc, V, rfl, v1, v2, v3, v4⟩ := (hv trivial).row; have HV := Lib.hid v4; have H5 := Lib.hid (H5.out.below b2); have HB := Lib.hid (chain HB.out b2); clear b2 hv v4 k0 k1 k2 m0 m1 m2 m3 m4 m5 m6)
  have HP2 := Lib.hid (HP.out.below HB.out hblt)
  have hne : w.heap.size ≠ b := by omega
  have hne2 : sg ≠ b := by omega
  have HV2 : Hid (∀ i, i < 6 → w2.cell? ⟨sg, i, none⟩ = some (.slice (some ⟨(V i).1, 0, none⟩) 64 (V i).2) ∧ b < (V i).1 ∧ Sl .u8 w2 (.slice (some ⟨(V i).1, 0, none⟩) 64 (V i).2) 64 (S i)) := Lib.hid (fun i hi => by
    obtain ⟨h1, h2, h3⟩ := HV.out i hi
    exact ⟨h1, by omega, h3⟩)
  clear HV HP HM HS HS1 HA1 H6 v1
  go_loopw [16] (fun x wr => ∃ k : Nat, k ≤ 6 ∧ x = .int .i64 k ∧ Hid (Arr wr .u8 b R (layS n g a S f k)) ∧ Hid (w2.grownBy wr (some b))) (fun x _ => 6 - (intOf x).toNat)
  case atStart => exact ⟨0, by omega, rfl, HP2, Lib.hid (grown_of_below (Below.refl _ _) _)⟩
  case round =>
    obtain ⟨k, hk, rfl, HP, HG⟩ := hrel
    by_cases hk6 : k < 6
    · have kb : (0 : Int) ≤ (k : Int) ∧ (k : Int) < 6 := by omega
      obtain ⟨c1, c2, c3⟩ := HV2.out k hk6
      have e1 := grown_cell HG.out (show some sg ≠ some b from fun e => hne2 (Option.some.inj e)) c1
      have H5 := Lib.hid (H5.out.kept HG.out (fun e => hne (Option.some.inj e)))
      have k0 := H5.out.cell 0 _ rfl
      have k1 := H5.out.cell 1 _ rfl
      have k2 := H5.out.cell 2 _ rfl
      have c3' := Sl.grown' c3 HG.out (fun _ x e e2 => by cases e; have := Option.some.inj e2; simp at this; omega)
      have bd := (Below.refl wr.heap.size wr).drew
      have CALL := Lib.hid (HL.out k wr.drew _ _ _ _ hk6 (HP.out.below bd (HP.out.lt h0)) (c3'.below bd) c2)
      have GD := Lib.hid (grown_trans HG.out (grown_of_below bd (some b)))
      have ek : IntKind.i64.wrap ((k : Int) + 1) = (k : Int) + 1 := IntWalk.i64_in _ (by omega)
      clear c1 c2 c3 c3' bd
      go_upto_region 12 with fail
      go_region_held3 (fun w' => w'.cell? ⟨w.heap.size, 0, none⟩ = some (.int .i64 n) ∧ w'.cell? ⟨w.heap.size, 1, none⟩ = some (.int .i64 g) ∧ w'.cell? ⟨w.heap.size, 2, none⟩ = some (.int .i64 a) ∧ w'.cell? ⟨sg, k, none⟩ = some (.slice (some ⟨(V k).1, 0, none⟩) 64 (V k).2))
        (first | exact ⟨k0, k1, k2, e1⟩ | exact S3.out)
        (first | (go_at_call 70; refine CALL.out.mono ?_; rintro e w3 ⟨rfl, a3, g3⟩; have S3 := Lib.hid (And.intro (grown_cell g3 (fun e => hne (Option.some.inj e)) k0) (And.intro (grown_cell g3 (fun e => hne (Option.some.inj e)) k1) (And.intro (grown_cell g3 (fun e => hne (Option.some.inj e)) k2) (grown_cell g3 (fun e => hne2 (Option.some.inj e)) e1)))); have HP3 := Lib.hid a3; have HG3 := Lib.hid (grown_trans GD.out g3); clear a3 g3))
      clear k0 k1 k2 e1
      go_wp2_with fail
      go_roundw
      case rel => exact ⟨k + 1, by omega, by go_num, HP3, HG3⟩
      case measure => simp [intOf]; omega
    · have kb : ¬ (k : Int) < 6 := by omega
      have hk7 : k = 6 := by omega
      clear hk hk6
      go_wp2_with fail
      go_ret
      subst hk7
      exact ⟨rfl, HP.out, grown_trans (grown_of_below HB.out _) HG.out⟩
theorem rMacro_any (hA : Arr w .u8 b R f) (hR : N ≤ R) (h0 : 0 < R) (hRN : (N : Int) = zV n → R = N) (hs : Sl .u8 w (.slice fa NF fc) NF F) (hf : ∀ i, 0 ≤ F i ∧ F i ≤ 255) (hb : M.at w vb) :
    Calls Tryz.prog 24 #[.slice (some ⟨b, 0, none⟩) N c, .slice fa NF fc, sp n g a, mv M vb, .int .i64 q] w fun e w' => e = .returned (.int .i64 (macE M n g a N NF q)) ∧ Arr w' .u8 b R (macF M n g a N NF q F f) ∧ w.grownBy w' (some b) := by
  have hblt := hA.lt h0
  have out : ∀ x, macE M n g a N NF q = x → x ≠ 0 → ∀ (e : Ending) (w' : World), e = .returned (.int .i64 x) ∧ Below w.heap.size w w' → e = .returned (.int .i64 (macE M n g a N NF q)) ∧ Arr w' .u8 b R (macF M n g a N NF q F f) ∧ w.grownBy w' (some b) := fun x hx hE e w' h => ⟨by rw [hx]; exact h.1, by unfold macF; rw [hx, if_neg hE]; exact hA.below h.2 hblt, grown_of_below h.2 _⟩
  by_cases hc : cE n g a = 0
  · by_cases hN : (N : Int) = zV n
    · have e0 : macE M n g a N NF q = smE M n g a NF q := by unfold macE; rw [if_neg (by omega), if_neg (by omega)]
      by_cases he : smE M n g a NF q = 0
      · refine (rmac_yes M vb b N R c fa NF fc f F n g a q w hA hR h0 hRN hc hN hs hf hb he).mono ?_
        rintro e w' ⟨h1, h2, h3⟩
        exact ⟨by rw [e0, he]; exact h1, by unfold macF; rw [e0, if_pos he]; exact h2, h3⟩
      · exact (rmac_no3 M vb N c fa NF fc F n g a q w hc hN _ hs hf hb he).mono (out _ e0 he)
    · exact (rmac_no2 M vb N c fa NF fc n g a q w hc hN _).mono (out 2 (by unfold macE; rw [if_neg (by omega), if_pos hN]) (by decide))
  · exact (rmac_no1 M vb N c fa NF fc n g a q w hc _).mono (out _ (by unfold macE; rw [if_pos hc]) hc)
theorem rSkip_any (hA : Arr w .u8 b R f) (h0 : 0 < R) (hRN : (N : Int) = zV n → R = N) (hs : Sl .u8 w (.slice fa NF fc) NF F) (hne : 0 < NF → ∀ x, fa = some x → x.block ≠ b) :
    Calls Tryz.prog 27 #[.slice (some ⟨b, 0, none⟩) N c, .slice fa NF fc, sp n g a] w fun e w' => e = .returned (.int .i64 (Pa.copE n g a N (aN NF n))) ∧ Arr w' .u8 b R (Pa.copG n g a N (aN NF n) (aF NF F) f) ∧ w.grownBy w' (some b) := by
  have hblt := hA.lt h0
  have HS := Lib.hid (fun V => Rf.rCorner_any n g a V)
  by_cases hc : cE n g a = 0
  · rw [hc] at HS
    have HH := Lib.hid (fun V h => rahead_any fa NF fc F n V h)
    have hz : aN NF n = 0 → False := fun h => by
      unfold aN at h
      by_cases h1 : NF = 0
      · rw [if_pos h1] at h
        rcases cE_n hc with rfl | rfl <;> simp [Pa.gryN, zV] at h
      · rw [if_neg h1] at h; exact h1 h
    have HC : Hid (∀ (V : World) (q : Option Addr) (d : Nat), Arr V .u8 b R f → Sl .u8 V (.slice q (aN NF n) d) (aN NF n) (aF NF F) → (0 < aN NF n → ∀ x, q = some x → x.block ≠ b) →
        Calls Tryz.prog 71 #[.slice (some ⟨b, 0, none⟩) N c, .slice q (aN NF n) d, .agg #[.int .i64 n, .int .i64 g, .int .i64 a]] V fun e w' => e = .returned (.int .i64 (Pa.copE n g a N (aN NF n))) ∧ Arr w' .u8 b R (Pa.copG n g a N (aN NF n) (aF NF F) f) ∧ V.grownBy w' (some b)) := Lib.hid (fun V q d h1 h2 h3 => Pa.rCopy_any b N R c q (aN NF n) d f (aF NF F) n g a V h1 h0 h2 h3 hRN)
    obtain ⟨N0, hN0⟩ : ∃ x, aN NF n = x := ⟨_, rfl⟩
    obtain ⟨F0, hF0⟩ : ∃ x, aF NF F = x := ⟨_, rfl⟩
    rw [hN0, hF0] at HH HC
    rw [hN0] at hz
    rw [hF0, hN0]
    obtain ⟨EC, hEC⟩ : ∃ x, Pa.copE n g a N N0 = x := ⟨_, rfl⟩
    obtain ⟨GC, hGC⟩ : ∃ x, Pa.copG n g a N N0 F0 f = x := ⟨_, rfl⟩
    rw [hEC, hGC] at HC
    rw [hEC, hGC]
    have HZ := Lib.hid hz
    clear hc hN0 hF0 hEC hGC hRN hz
    have HB := Lib.hid ((Below.refl w.heap.size w).alloc (Nat.le_refl _) (.cells #[.int .i64 n, .int .i64 g, .int .i64 a] 28))
    have H5 : Hid (At _ _ _ _) := Lib.hid (At.new w #[.int .i64 n, .int .i64 g, .int .i64 a] 28)
    have k0 := H5.out.cell 0 _ rfl
    have k1 := H5.out.cell 1 _ rfl
    have k2 := H5.out.cell 2 _ rfl
    have HS1 := Lib.hid (hs.below HB.out)
    have HP := Lib.hid hA
    clear hs hA
    go_enter Tryz.func27, Tryz.ntmps27
    go_upto_region 4 with (go_at_call 59; refine (HS.out _).mono ?_; rintro e w1 ⟨rfl, b1⟩; have HB := Lib.hid (chain HB.out b1); have HS1 := Lib.hid (HS1.out.below b1); have H5 := Lib.hid (H5.out.below b1); clear b1 k0 k1 k2)
    have HB := Lib.hid (HB.out.drew)
    have HS1 := Lib.hid (HS1.out.below (Below.refl _ _).drew)
    have H5 := Lib.hid (H5.out.below (Below.refl _ _).drew)
    have k0 := H5.out.cell 0 _ rfl
    have k1 := H5.out.cell 1 _ rfl
    have k2 := H5.out.cell 2 _ rfl
    have sz := HB.out.size
    go_region_with (first
      | (go_at_call 64; refine (HH.out _ HS1.out).mono ?_; rintro e w2 ⟨v, rfl, hS2, hd, b2⟩; obtain ⟨vq, vc, rfl, _, _, _⟩ := id hS2; have HS2 := Lib.hid hS2; have HD := Lib.hid hd; have HB := Lib.hid (chain HB.out b2); have k0 := (b2.cell (p := ⟨w.heap.size, 0, none⟩) H5.out.lt).trans k0; have k1 := (b2.cell (p := ⟨w.heap.size, 1, none⟩) H5.out.lt).trans k1; have k2 := (b2.cell (p := ⟨w.heap.size, 2, none⟩) H5.out.lt).trans k2; clear hS2 hd b2)
      | (go_at_call 71; refine (HC.out _ _ _ (HP.out.below HB.out hblt) HS2.out (fun hp x e => by
          rcases HD.out with h | h
          · cases h; exact hne hp x e
          · rcases h with ⟨h, _⟩ | ⟨gg, cc, h, h7, _⟩
            · omega
            · cases h; cases e; simp; omega)).mono ?_; rintro e w3 ⟨rfl, a3, g3⟩; have HP3 := Lib.hid a3; have HG3 := Lib.hid (grown_trans (grown_of_below HB.out (some b)) g3); clear a3 g3))
    all_goals (go_wp2_with fail; go_ret; exact ⟨rfl, HP3.out, HG3.out⟩)
  · have e1 : Pa.copE n g a N (aN NF n) = cE n g a := by unfold Pa.copE Pa.refE; rw [if_pos hc]
    unfold Pa.copG
    rw [e1, if_neg hc]
    obtain ⟨E, hE⟩ : ∃ E, cE n g a = E := ⟨_, rfl⟩
    rw [hE] at HS hc
    rw [hE]
    have t1 : (E != 0) = true := by simpa using hc
    clear hc hE e1
    have HB := Lib.hid ((Below.refl w.heap.size w).alloc (Nat.le_refl _) (.cells #[.int .i64 n, .int .i64 g, .int .i64 a] 28))
    have H5 : Hid (At _ _ _ _) := Lib.hid (At.new w #[.int .i64 n, .int .i64 g, .int .i64 a] 28)
    have k0 := H5.out.cell 0 _ rfl
    have k1 := H5.out.cell 1 _ rfl
    have k2 := H5.out.cell 2 _ rfl
    have HP := Lib.hid hA
    clear hs hA
    go_enter Tryz.func27, Tryz.ntmps27
    go_wp2_with (go_at_call 59; refine (HS.out _).mono ?_; rintro e w1 ⟨rfl, b1⟩; have HB := Lib.hid (chain HB.out b1); clear b1 H5 k0 k1 k2)
    go_ret
    exact ⟨rfl, HP.out.below HB.out hblt, grown_of_below HB.out _⟩
end
end Bu
end Go.Proofs.YtbmglemjfodfhaaGreat
namespace Go.Proofs.YtbmglemjfodfhaaGreat
open Go.RowKit
namespace Bl
open Bk Fr Pt Kd Bu Pa
theorem layS_lent (n g a : Int) (S : Nat → Nat → Int) (f : Nat → Int) (N : Nat) (hc : cE n g a = 0) (hN : (N : Int) = zV n) : ∀ k, k ≤ 6 → layS n g a S (lentF N f) k = lentF N (layS n g a S f k)
  | 0, _ => rfl
  | k + 1, hk => by
    have ih := layS_lent n g a S f N hc hN k (by omega)
    have fit := Pa.place_fit n g a ((k : Int) + 1) hc (by omega)
    show Pa.layN _ _ (S k) (layS n g a S (lentF N f) k) 64 = lentF N (Pa.layN _ _ (S k) (layS n g a S f k) 64)
    rw [ih]
    exact Pa.lay_lent _ _ N (S k) _ (by omega) 64 (by omega)
theorem macF_lent (M : MB) (n g a : Int) (N NF : Nat) (q : Int) (F f : Nat → Int) : macF M n g a N NF q F (lentF N f) = lentF N (macF M n g a N NF q F f) := by
  unfold macF
  by_cases h : macE M n g a N NF q = 0
  · rw [if_pos h, if_pos h]
    have hc : cE n g a = 0 := by
      by_cases hc : cE n g a = 0
      · exact hc
      · unfold macE at h; rw [if_pos hc] at h; exact absurd h hc
    have hN : (N : Int) = zV n := by
      by_cases hN : (N : Int) = zV n
      · exact hN
      · unfold macE at h; rw [if_neg (by omega), if_pos hN] at h; exact absurd h (by decide)
    exact layS_lent n g a _ f N hc hN 6 (by omega)
  · rw [if_neg h, if_neg h]
structure Off (gi : Nat) (W1 w : World) : Prop where
  sz : W1.heap.size ≤ w.heap.size
  cell : ∀ b o, b < W1.heap.size → b ≠ gi → w.cell? ⟨b, o, none⟩ = W1.cell? ⟨b, o, none⟩
theorem Off.below {gi : Nat} {W1 w w' : World} (h : Off gi W1 w) (hb : Below w.heap.size w w') : Off gi W1 w' :=
  ⟨Nat.le_trans h.sz hb.size, fun b o h1 h2 => (hb.cell (p := ⟨b, o, none⟩) (Nat.lt_of_lt_of_le h1 h.sz)).trans (h.cell b o h1 h2)⟩
theorem Off.row {gi x : Nat} {W1 w w' : World} (h : Off gi W1 w) (hg : w.grownBy w' (some x)) (hx : x = gi ∨ W1.heap.size ≤ x) : Off gi W1 w' := by
  refine ⟨Nat.le_trans h.sz hg.size, fun b o h1 h2 => ?_⟩
  rw [← h.cell b o h1 h2]
  have hne : some b ≠ some x := fun e => by
    have := Option.some.inj e
    rcases hx with hx | hx
    · exact h2 (by omega)
    · omega
  have hbk := hg.block b (Nat.lt_of_lt_of_le h1 h.sz) hne
  simp [World.cell?, hbk]
theorem Pl.off {gi : Nat} {W1 w : World} {v : Value} {n : Nat} {r l : Nat → Int} (h : RPl (gi + 1) W1 v n r l) (ho : Off gi W1 w) : Pl w v n r l := by
  rcases h with ⟨rfl, rfl⟩ | ⟨g, c, rfl, h1, h2, h3, h4, h5⟩
  · exact ⟨none, 0, rfl, Nat.le_refl _, Nat.zero_le _, .inl ⟨rfl, fun _ => rfl⟩⟩
  · refine ⟨_, c, rfl, h3, h4, .inr ⟨g, 0, rfl, Nat.lt_of_lt_of_le h2 ho.sz, fun i hi => ?_⟩⟩
    obtain ⟨e1, e2⟩ := h5 i hi
    exact ⟨(ho.cell _ _ h2 (by omega)).trans e1, (ho.cell _ _ h2 (by omega)).trans e2⟩
def MB.hi (M : MB) (B : Nat) (w : World) (v : Value) : Prop := ∃ a c, v = .slice a M.m c ∧ M.m ≤ c ∧ c ≤ maxLen ∧ (M.m = 0 ∨ ∃ b, a = some ⟨b, 0, none⟩ ∧ B ≤ b ∧ b < w.heap.size ∧ ∀ j, j < M.m → w.cell? ⟨b, j * 2, none⟩ = some (.int .i64 (M.dc j)) ∧ w.cell? ⟨b, j * 2 + 1, none⟩ = some (.slice (M.q j) (M.nn j) (M.cc j)) ∧ RPl B w (.slice (M.q j) (M.nn j) (M.cc j)) (M.nn j) (M.r j) (M.l j) ∧ M.nn j ≤ 1000)
theorem Cop.hi {w : World} {B : Nat} {M : MB} {v : Value} {Q : Nat → Option Addr} {C : Nat → Nat} (h : Cop w B M v M.m Q C) (hn : ∀ j, j < M.m → M.nn j ≤ 1000) : MB.hi (M.cp Q C) B w v := by
  have hc := fun g => World.ownsRow.cells h.own (g := g)
  rcases h.own.2 with ⟨rfl, h0⟩ | ⟨g, cap, cur, rfl, hb, hg, h1, h2, h3, h4⟩
  · have h0 : M.m = 0 := by simpa [bcs_len] using h0
    refine ⟨none, 0, ?_, ?_, Nat.zero_le _, .inl h0⟩
    · show Value.slice none 0 0 = Value.slice none M.m 0
      rw [h0]
    · show M.m ≤ 0
      omega
  · refine ⟨some ⟨g, 0, none⟩, cap, rfl, h1, h2, .inr ⟨g, rfl, hb, (Array.getElem?_eq_some_iff.1 hg).1, fun i hi => ?_⟩⟩
    obtain ⟨p1, p2⟩ := bcs_get M.dc Q M.nn C M.m i hi
    have a1 := hc g rfl _ _ p1
    have a2 := hc g rfl _ _ p2
    have ad : ∀ j, (⟨g, 0, none⟩ : Addr).add j = ⟨g, j, none⟩ := fun j => by unfold Addr.add; split <;> simp_all
    rw [ad] at a1 a2
    exact ⟨a1, a2, RPl.of_own (h.row i hi), hn i hi⟩
theorem MB.hi.off {M : MB} {gi : Nat} {W1 w : World} {v : Value} (h : MB.hi M (gi + 1) W1 v) (ho : Off gi W1 w) : M.at w v := by
  obtain ⟨a, c, rfl, h1, h2, h3⟩ := h
  refine ⟨a, c, rfl, h1, h2, ?_⟩
  rcases h3 with h3 | ⟨b, rfl, h4, h5, h6⟩
  · exact .inl h3
  · refine .inr ⟨b, 0, rfl, fun j hj => ?_⟩
    obtain ⟨e1, e2, e3, e4⟩ := h6 j hj
    rw [show 0 + j * 2 = j * 2 by omega]
    exact ⟨(ho.cell _ _ h5 (by omega)).trans e1, (ho.cell _ _ h5 (by omega)).trans e2, Pl.off e3 ho, e4⟩
theorem MB.hi.mono {M : MB} {B B' : Nat} {w : World} {v : Value} (h : MB.hi M B w v) (hb : B' ≤ B) : MB.hi M B' w v := by
  obtain ⟨a, c, rfl, h1, h2, h3⟩ := h
  refine ⟨a, c, rfl, h1, h2, ?_⟩
  rcases h3 with h3 | ⟨b, rfl, h4, h5, h6⟩
  · exact .inl h3
  · exact .inr ⟨b, rfl, Nat.le_trans hb h4, h5, fun j hj => ⟨(h6 j hj).1, (h6 j hj).2.1, RPl.mono hb (h6 j hj).2.2.1, (h6 j hj).2.2.2⟩⟩
structure BC where (n g a : Int) (M : MB) (vb va : Value) (Q : Nat → Option Addr) (C : Nat → Nat) (q : Int) (sp mb ib gi gL gM cL cM N N' NF fc : Nat) (fa : Option Addr) (F2 : Nat → Int) (W W1 : World)
structure BC.ok (c : BC) : Prop where
  sp : c.W.heap.size ≤ c.sp
  mb : c.W.heap.size ≤ c.mb
  gi : c.sp < c.gi ∧ c.mb < c.gi ∧ c.gi < c.W1.heap.size
  gL : c.W1.heap.size ≤ c.gL
  gM : c.gL < c.gM
  ib : c.gM < c.ib
  n1 : 0 < c.N' ∧ c.N' ≤ c.N
  n2 : c.NF ≤ 152064
  n3 : c.N ≤ 152064
  n4 : (c.N' : Int) = zV c.n → c.N = c.N'
  cL : c.N' + 4 ≤ c.cL ∧ c.cL ≤ maxLen
  cM : c.NF + 4 ≤ c.cM ∧ c.cM ≤ maxLen
  m : c.M.at c.W c.vb
  i : MB.hi (c.M.cp c.Q c.C) (c.gi + 1) c.W1 c.va
  f : Sl .u8 c.W1 (.slice c.fa c.NF c.fc) c.NF c.F2
  fn : ∀ x, c.fa = some x → x.block ≠ c.gi
  bd : ∀ i, 0 ≤ c.F2 i ∧ c.F2 i ≤ 255
abbrev BC.sv (c : BC) : Value := .agg #[.int .i64 c.n, .int .i64 c.g, .int .i64 c.a]
structure BS (c : BC) (w : World) (fm ft : Nat → Int) : Prop where
  spot : At w c.sp #[.int .i64 c.n, .int .i64 c.g, .int .i64 c.a] 28
  mac : At w c.mb #[.int .i64 c.M.ad, .int .i64 c.M.kd, .int .i64 c.M.qt, .int .i64 c.M.x, .int .i64 c.M.y, .int .i64 c.M.pt, c.vb] 24
  inn : At w c.ib #[.int .i64 c.M.ad, .int .i64 c.M.kd, .int .i64 c.M.qt, .int .i64 c.M.x, .int .i64 c.M.y, .int .i64 c.M.pt, c.va] 24
  mine : Arr w .u8 c.gL (c.N' + 4) fm
  tgt : Arr w .u8 c.gi c.N ft
  other : Arr w .u8 c.gM (c.NF + 4) (lentF c.NF c.F2)
  off : Off c.gi c.W1 w
  bel : Below c.W.heap.size c.W w
section
variable {c : BC} {w : World} {fm ft : Nat → Int}
theorem BS.m (h : BS c w fm ft) (ok : c.ok) : c.M.at w c.vb := ok.m.below h.bel
theorem BS.i (h : BS c w fm ft) (ok : c.ok) : (c.M.cp c.Q c.C).at w c.va := ok.i.off h.off
theorem BS.f (h : BS c w fm ft) (ok : c.ok) : Sl .u8 w (.slice c.fa c.NF c.fc) c.NF c.F2 := by
  obtain ⟨a, d, e, h1, h2, h3⟩ := ok.f
  cases e
  refine ⟨_, _, rfl, h1, h2, ?_⟩
  rcases h3 with h3 | ⟨b, o, e, h4, h5⟩
  · exact .inl h3
  · have hne : b ≠ c.gi := ok.fn _ e
    exact .inr ⟨b, o, e, Nat.lt_of_lt_of_le h4 h.off.sz, fun i hi => (h.off.cell _ _ h4 hne).trans (h5 i hi)⟩
theorem BS.below {w' : World} (h : BS c w fm ft) (ok : c.ok) (hb : Below w.heap.size w w') : BS c w' fm ft where
  spot := h.spot.below hb
  mac := h.mac.below hb
  inn := h.inn.below hb
  mine := h.mine.below hb (h.mine.lt (by omega))
  tgt := h.tgt.below hb (h.tgt.lt (by have := ok.n1; omega))
  other := h.other.below hb (h.other.lt (by omega))
  off := h.off.below hb
  bel := chain h.bel hb
theorem BS.toMine {w' : World} {f' : Nat → Int} (h : BS c w fm ft) (ok : c.ok) (hA : Arr w' .u8 c.gL (c.N' + 4) f') (hg : w.grownBy w' (some c.gL)) : BS c w' f' ft := by
  have k1 := ok.sp; have k2 := ok.mb; have k3 := ok.gi; have k4 := ok.gL; have k5 := ok.gM; have k6 := ok.ib
  exact {
    spot := h.spot.kept hg (fun e => by have := Option.some.inj e; omega)
    mac := h.mac.kept hg (fun e => by have := Option.some.inj e; omega)
    inn := h.inn.kept hg (fun e => by have := Option.some.inj e; omega)
    mine := hA
    tgt := h.tgt.grown hg (fun e => by have := Option.some.inj e; omega)
    other := h.other.grown hg (fun e => by have := Option.some.inj e; omega)
    off := h.off.row hg (.inr k4)
    bel := h.bel.grown hg h.bel.size (fun b e => by have := Option.some.inj e; omega) }
theorem BS.toTo {w' : World} {f' : Nat → Int} (h : BS c w fm ft) (ok : c.ok) (hA : Arr w' .u8 c.gi c.N f') (hg : w.grownBy w' (some c.gi)) : BS c w' fm f' := by
  have k1 := ok.sp; have k2 := ok.mb; have k3 := ok.gi; have k4 := ok.gL; have k5 := ok.gM; have k6 := ok.ib
  exact {
    spot := h.spot.kept hg (fun e => by have := Option.some.inj e; omega)
    mac := h.mac.kept hg (fun e => by have := Option.some.inj e; omega)
    inn := h.inn.kept hg (fun e => by have := Option.some.inj e; omega)
    mine := h.mine.grown hg (fun e => by have := Option.some.inj e; omega)
    tgt := hA
    other := h.other.grown hg (fun e => by have := Option.some.inj e; omega)
    off := h.off.row hg (.inl rfl)
    bel := h.bel.grown hg h.bel.size (fun b e => by have := Option.some.inj e; omega) }
theorem BS.keptMine {f : Nat → Int} (h : BS c w (lentF c.N' f) f) (ok : c.ok) : Calls Tryz.prog 25 #[.slice (some ⟨c.gL, 0, none⟩) c.N' c.cL, .slice (some ⟨c.gi, 0, none⟩) c.N' c.N] w
    fun e w' => e = .returned (.bool true) ∧ BS c w' (lentF c.N' f) f := by
  have k3 := ok.n1; have k5 := ok.n3
  refine (KeptBytes_row c.gL c.cL c.N' _ c.N f w (by omega) ok.cL.1 ok.cL.2 h.mine (Pa.part_sl h.tgt (by omega) k3.2 (by unfold maxLen; omega))).mono ?_
  rintro e w' ⟨rfl, h1⟩
  exact ⟨rfl, h.below ok h1⟩
theorem BS.keptOther (h : BS c w fm ft) (ok : c.ok) : Calls Tryz.prog 25 #[.slice (some ⟨c.gM, 0, none⟩) c.NF c.cM, .slice c.fa c.NF c.fc] w
    fun e w' => e = .returned (.bool true) ∧ BS c w' fm ft := by
  have k4 := ok.n2
  refine (KeptBytes_row c.gM c.cM c.NF _ c.fc c.F2 w (by omega) ok.cM.1 ok.cM.2 h.other (h.f ok)).mono ?_
  rintro e w' ⟨rfl, h1⟩
  exact ⟨rfl, h.below ok h1⟩
theorem BS.same (h : BS c w fm ft) (ok : c.ok) : Calls Tryz.prog 28 #[mv c.M c.va, mv c.M c.vb] w
    fun e w' => e = .returned (.bool true) ∧ BS c w' fm ft := by
  refine (SameMacro_true c.M c.Q c.C c.va c.vb w (h.i ok) (h.m ok)).mono ?_
  rintro e w' ⟨rfl, h1⟩
  exact ⟨rfl, h.below ok h1⟩
theorem BS.cells (h : BS c w fm ft) : w.cell? ⟨c.sp, 0, none⟩ = some (.int .i64 c.n) ∧ w.cell? ⟨c.sp, 1, none⟩ = some (.int .i64 c.g) ∧ w.cell? ⟨c.sp, 2, none⟩ = some (.int .i64 c.a) ∧ w.cell? ⟨c.mb, 0, none⟩ = some (.int .i64 c.M.ad) ∧ w.cell? ⟨c.mb, 1, none⟩ = some (.int .i64 c.M.kd) ∧ w.cell? ⟨c.mb, 2, none⟩ = some (.int .i64 c.M.qt) ∧ w.cell? ⟨c.mb, 3, none⟩ = some (.int .i64 c.M.x) ∧ w.cell? ⟨c.mb, 4, none⟩ = some (.int .i64 c.M.y) ∧ w.cell? ⟨c.mb, 5, none⟩ = some (.int .i64 c.M.pt) ∧ w.cell? ⟨c.mb, 6, none⟩ = some c.vb ∧ w.cell? ⟨c.ib, 0, none⟩ = some (.int .i64 c.M.ad) ∧ w.cell? ⟨c.ib, 1, none⟩ = some (.int .i64 c.M.kd) ∧ w.cell? ⟨c.ib, 2, none⟩ = some (.int .i64 c.M.qt) ∧ w.cell? ⟨c.ib, 3, none⟩ = some (.int .i64 c.M.x) ∧ w.cell? ⟨c.ib, 4, none⟩ = some (.int .i64 c.M.y) ∧ w.cell? ⟨c.ib, 5, none⟩ = some (.int .i64 c.M.pt) ∧ w.cell? ⟨c.ib, 6, none⟩ = some c.va :=
  ⟨h.spot.cell 0 _ rfl, h.spot.cell 1 _ rfl, h.spot.cell 2 _ rfl, h.mac.cell 0 _ rfl, h.mac.cell 1 _ rfl, h.mac.cell 2 _ rfl, h.mac.cell 3 _ rfl, h.mac.cell 4 _ rfl, h.mac.cell 5 _ rfl, h.mac.cell 6 _ rfl, h.inn.cell 0 _ rfl, h.inn.cell 1 _ rfl, h.inn.cell 2 _ rfl, h.inn.cell 3 _ rfl, h.inn.cell 4 _ rfl, h.inn.cell 5 _ rfl, h.inn.cell 6 _ rfl⟩
end
end Bl
end Go.Proofs.YtbmglemjfodfhaaGreat
namespace Go.Proofs.YtbmglemjfodfhaaGreat
open Go.RowKit
namespace Bl
open Bk Fr Pt Kd Bu
section
set_option maxRecDepth 100000
set_option maxHeartbeats 4000000
set_option linter.unusedVariables false
theorem rrises_any (G : GB) (mvv : Value) (w : World) (hms : Gsl w mvv G.m G.Ms G.vb) (hsh : ∀ j, j < G.m → Short (G.Ms j)) :
    Calls Tryz.prog 78 #[mvv] w fun e w' => e = .returned (.bool (decide (rise G.Ms G.m))) ∧ Below w.heap.size w w' := by
  obtain ⟨a, c, rfl, h1, h2, h3⟩ := hms
  have H3 := Lib.hid h3
  have HSH := Lib.hid hsh
  clear h3 hsh
  obtain ⟨R, hR⟩ : ∃ b : Bool, b = decide (rise G.Ms G.m) := ⟨_, rfl⟩
  rw [← hR]
  have HR := Lib.hid hR
  clear hR
  go_enter Tryz.func78, Tryz.ntmps78
  go_wp2_with fail
  go_loopw [3] (fun x wr => ∃ k : Nat, k ≤ G.m ∧ x = .int .i64 k ∧ Hid (rise G.Ms k) ∧ Hid (Below w.heap.size w wr)) (fun x _ => G.m - (intOf x).toNat)
  case atStart => exact ⟨0, Nat.zero_le _, rfl, Lib.hid (fun j hj => by omega), Lib.hid (Below.refl _ _)⟩
  case round =>
    obtain ⟨k, hk, rfl, HRi, HW⟩ := hrel
    by_cases hkm : k < G.m
    · have kb : (0 : Int) ≤ (k : Int) ∧ (k : Int) < (G.m : Int) := by omega
      have ek : IntKind.i64.wrap ((k : Int) + 1) = (k : Int) + 1 := IntWalk.i64_in _ (by have h2q := h2; unfold maxLen at h2q; omega)
      rcases H3.out with h0 | ⟨b, o, rfl, hI⟩
      · omega
      obtain ⟨hc, hr⟩ := hI k hkm
      obtain ⟨va, vc, hvk, _, _, _⟩ := id hr
      rw [hvk] at hr
      have cc : ∀ i, i < 7 → wr.cell? ⟨b, o + k * 7 + i, none⟩ = some (mcell (G.Ms k) (G.vb k) i) := fun i hi => (HW.out.cell (p := ⟨b, o + k * 7 + i, none⟩) (World.block_lt_of_cell? _ _ (hc i hi))).trans (hc i hi)
      have d0 : wr.cell? ⟨b, o + k * 7, none⟩ = some (.int .i64 (G.Ms k).ad) := cc 0 (by omega)
      have d1 : wr.cell? ⟨b, o + k * 7 + 1, none⟩ = some (.int .i64 (G.Ms k).kd) := cc 1 (by omega)
      have d2 : wr.cell? ⟨b, o + k * 7 + 2, none⟩ = some (.int .i64 (G.Ms k).qt) := cc 2 (by omega)
      have d3 : wr.cell? ⟨b, o + k * 7 + 3, none⟩ = some (.int .i64 (G.Ms k).x) := cc 3 (by omega)
      have d4 : wr.cell? ⟨b, o + k * 7 + 4, none⟩ = some (.int .i64 (G.Ms k).y) := cc 4 (by omega)
      have d5 : wr.cell? ⟨b, o + k * 7 + 5, none⟩ = some (.int .i64 (G.Ms k).pt) := cc 5 (by omega)
      have d6 : wr.cell? ⟨b, o + k * 7 + 6, none⟩ = some (.slice va (G.Ms k).m vc) := by rw [← hvk]; exact cc 6 (by omega)
      have HMA := Lib.hid ((HSH.out k hkm).at (hr.below HW.out))
      have CK : Hid (∀ V, Below wr.heap.size wr V → Calls Tryz.prog 61 #[mv (G.Ms k) (.slice va (G.Ms k).m vc)] V fun e w' => e = .returned (.int .i64 (G.Ms k).e) ∧ Below V.heap.size V w') := Lib.hid (fun V h => rmCheck_any (G.Ms k) (.slice va (G.Ms k).m vc) V (HMA.out.below h))
      obtain ⟨e0, he0⟩ : ∃ x, (G.Ms k).e = x := ⟨_, rfl⟩
      have HE0 := Lib.hid he0
      rw [he0] at CK
      have q0 := Past.cell d0
      have q1 := Past.cell d1
      have q2 := Past.cell d2
      have q3 := Past.cell d3
      have q4 := Past.cell d4
      have q5 := Past.cell d5
      have q6 := Past.cell d6
      have hI' := Lib.hid hI
      clear hI hc hr cc hvk he0 d0 d1 d2 d3 d4 d5 d6
      go_upto_region 4 with fail
      by_cases hz : e0 = 0
      case neg =>
        have t3 : (e0 != 0) = true := by simpa using hz
        have E' : Hid (R = false) := Lib.hid (by rw [HR.out]; exact decide_eq_false (fun h => hz (by rw [← HE0.out]; exact (h k hkm).1)))
        clear hz
        refine wp_region_past (by kernel_rfl) (by kernel_rfl) ?_
        repeat (go_big_quiet_step ((go_at_call 61; exact past_call (CK.out _ (Past.kept _)))))
        refine wpQuiet_nil ?_
        rintro _ ⟨⟨w4, h4⟩, rfl⟩
        have HW := Lib.hid (chain HW.out h4)
        clear q0 q1 q2 q3 q4 q5 q6 h4 CK
        go_wp2_with fail
        go_ret
        exact ⟨by rw [E'.out]; rfl, HW.out⟩
      case pos =>
      have t3 : (e0 != 0) = false := by simp [hz]
      have HZ := Lib.hid hz
      clear hz
      by_cases hk0 : 0 < k
      case neg =>
        have g0 : decide (0 < k) = false := decide_eq_false hk0
        have HRi := Lib.hid (show rise G.Ms (k + 1) from fun j hj => by
          have e : j = 0 := by omega
          have e2 : k = 0 := by omega
          have e3 : (G.Ms j).e = 0 := by rw [e, ← e2, HE0.out]; exact HZ.out
          refine ⟨e3, ?_⟩
          have := (ok_xy e3)
          subst e
          simp only [lastA]
          omega)
        clear hk0
        refine wp_region_past (by kernel_rfl) (by kernel_rfl) ?_
        repeat (go_big_quiet_step ((go_at_call 61; exact past_call (CK.out _ (Past.kept _)))))
        refine wpQuiet_nil ?_
        rintro _ ⟨⟨w4, h4⟩, rfl⟩
        have HW := Lib.hid (chain HW.out h4)
        clear q0 q1 q2 q3 q4 q5 q6 h4 CK
        go_wp2_with fail
        go_roundw
        case rel => exact ⟨k + 1, by omega, by go_num, HRi, HW⟩
        case measure => simp [intOf]; omega
      case pos =>
      have g0 : decide (0 < k) = true := decide_eq_true hk0
      obtain ⟨j, hj⟩ : ∃ j : Nat, k = j + 1 := ⟨k - 1, by omega⟩
      have ej : IntKind.i64.wrap ((k : Int) - 1) = (j : Int) := by rw [IntWalk.i64_in _ (by have h2q := h2; unfold maxLen at h2q; omega)]; omega
      have jb : (0 : Int) ≤ (j : Int) ∧ (j : Int) < (G.m : Int) := by omega
      have p0 : wr.cell? ⟨b, o + j * 7, none⟩ = some (.int .i64 (G.Ms j).ad) := by
        have h := (hI'.out j (by omega)).1 0 (by omega)
        exact (HW.out.cell (p := ⟨b, o + j * 7, none⟩) (World.block_lt_of_cell? _ _ h)).trans h
      have q7 := Past.cell p0
      obtain ⟨AJ, hAJ⟩ : ∃ x, (G.Ms j).ad = x := ⟨_, rfl⟩
      obtain ⟨AK, hAK⟩ : ∃ x, (G.Ms k).ad = x := ⟨_, rfl⟩
      have HAJ := Lib.hid hAJ
      have HAK := Lib.hid hAK
      have HJ := Lib.hid hj
      rw [hAJ] at q7
      rw [hAK] at q0
      unfold mv at CK
      rw [hAK] at CK
      clear p0 hj hAJ hAK hk0
      by_cases hl : AK ≤ AJ
      · have E' : Hid (R = false) := Lib.hid (by rw [HR.out]; exact decide_eq_false (fun h => by have h9 := (h k hkm).2; rw [HJ.out] at h9; simp only [lastA] at h9; rw [← HJ.out, HAJ.out, HAK.out] at h9; omega))
        have e2 : decide (AK ≤ AJ) = true := decide_eq_true hl
        clear hl
        refine wp_region_past (by kernel_rfl) (by kernel_rfl) ?_
        repeat (go_big_quiet_step ((go_at_call 61; exact past_call (CK.out _ (Past.kept _)))))
        refine wpQuiet_nil ?_
        rintro _ ⟨⟨w4, h4⟩, rfl⟩
        have HW := Lib.hid (chain HW.out h4)
        clear q0 q1 q2 q3 q4 q5 q6 q7 h4 CK
        go_wp2_with fail
        go_ret
        exact ⟨by rw [E'.out]; rfl, HW.out⟩
      · have e2 : decide (AK ≤ AJ) = false := decide_eq_false hl
        have HRi := Lib.hid (show rise G.Ms (k + 1) from fun i hi => by
          by_cases e : i = k
          · rw [e]
            refine ⟨by rw [HE0.out]; exact HZ.out, ?_⟩
            rw [HAK.out, HJ.out]
            simp only [lastA]
            rw [HAJ.out]
            omega
          · exact HRi.out i (by omega))
        clear hl
        refine wp_region_past (by kernel_rfl) (by kernel_rfl) ?_
        repeat (go_big_quiet_step ((go_at_call 61; exact past_call (CK.out _ (Past.kept _)))))
        refine wpQuiet_nil ?_
        rintro _ ⟨⟨w4, h4⟩, rfl⟩
        have HW := Lib.hid (chain HW.out h4)
        clear q0 q1 q2 q3 q4 q5 q6 q7 h4 CK
        go_wp2_with fail
        go_roundw
        case rel => exact ⟨k + 1, by omega, by go_num, HRi, HW⟩
        case measure => simp [intOf]; omega
    · have kb : ¬ (k : Int) < (G.m : Int) := by omega
      have hk2 : k = G.m := by omega
      have E' : Hid (R = true) := Lib.hid (by rw [HR.out]; exact decide_eq_true (by rw [← hk2]; exact HRi.out))
      clear hkm hk hk2
      go_wp2_with fail
      go_ret
      exact ⟨by rw [E'.out]; rfl, HW.out⟩
theorem rfit_any (G : GB) (mvv : Value) (n : Int) (w : World) (hms : Gsl w mvv G.m G.Ms G.vb) :
    Calls Tryz.prog 79 #[.int .i64 n, gv G mvv] w fun e w' => e = .returned (.bool (decide (fits n G.num G.Ms G.m))) ∧ Below w.heap.size w w' := by
  obtain ⟨a, c, rfl, h1, h2, h3⟩ := hms
  have HB := Lib.hid ((Below.refl w.heap.size w).alloc (Nat.le_refl _) (.cells #[.int .i64 G.num, .int .i64 G.qt, .slice G.sa G.sN G.sc, .slice a G.m c] 56))
  have K0 : Hid (At _ _ _ _) := Lib.hid (At.new w #[.int .i64 G.num, .int .i64 G.qt, .slice G.sa G.sN G.sc, .slice a G.m c] 56)
  have H3 := Lib.hid h3
  clear h3
  obtain ⟨R, hR⟩ : ∃ b : Bool, b = decide (fits n G.num G.Ms G.m) := ⟨_, rfl⟩
  rw [← hR]
  have HR := Lib.hid hR
  clear hR
  go_enter Tryz.func79, Tryz.ntmps79
  go_upto_region 1 with fail
  have zb : w.heap.size < (w.alloc (.cells #[.int .i64 G.num, .int .i64 G.qt, .slice G.sa G.sN G.sc, .slice a G.m c] 56)).heap.size := by simp
  generalize w.alloc (.cells #[.int .i64 G.num, .int .i64 G.qt, .slice G.sa G.sN G.sc, .slice a G.m c] 56) = W1 at *
  go_wp2_with fail
  go_loopw [5] (fun x wr => ∃ k : Nat, k ≤ G.m ∧ x = .int .i64 k ∧ Hid (fits n G.num G.Ms k) ∧ Hid (Below W1.heap.size W1 wr)) (fun x _ => G.m - (intOf x).toNat)
  case atStart => exact ⟨0, Nat.zero_le _, rfl, Lib.hid (fun j hj => by omega), Lib.hid (Below.refl _ _)⟩
  case round =>
    obtain ⟨k, hk, rfl, HFi, HW⟩ := hrel
    have c3 := (K0.out.below HW.out).cell 3 _ rfl
    by_cases hkm : k < G.m
    · have kb : (0 : Int) ≤ (k : Int) ∧ (k : Int) < (G.m : Int) := by omega
      have ek : IntKind.i64.wrap ((k : Int) + 1) = (k : Int) + 1 := IntWalk.i64_in _ (by have h2q := h2; unfold maxLen at h2q; omega)
      rcases H3.out with h0 | ⟨b, o, rfl, hI⟩
      · omega
      obtain ⟨hc, hr⟩ := hI k hkm
      obtain ⟨va, vc, hvk, _, _, _⟩ := id hr
      have cc : ∀ i, i < 7 → wr.cell? ⟨b, o + k * 7 + i, none⟩ = some (mcell (G.Ms k) (G.vb k) i) := fun i hi => ((chain HB.out HW.out).cell (p := ⟨b, o + k * 7 + i, none⟩) (World.block_lt_of_cell? _ _ (hc i hi))).trans (hc i hi)
      have d0 : wr.cell? ⟨b, o + k * 7, none⟩ = some (.int .i64 (G.Ms k).ad) := cc 0 (by omega)
      have d1 : wr.cell? ⟨b, o + k * 7 + 1, none⟩ = some (.int .i64 (G.Ms k).kd) := cc 1 (by omega)
      have d2 : wr.cell? ⟨b, o + k * 7 + 2, none⟩ = some (.int .i64 (G.Ms k).qt) := cc 2 (by omega)
      have d3 : wr.cell? ⟨b, o + k * 7 + 3, none⟩ = some (.int .i64 (G.Ms k).x) := cc 3 (by omega)
      have d4 : wr.cell? ⟨b, o + k * 7 + 4, none⟩ = some (.int .i64 (G.Ms k).y) := cc 4 (by omega)
      have d5 : wr.cell? ⟨b, o + k * 7 + 5, none⟩ = some (.int .i64 (G.Ms k).pt) := cc 5 (by omega)
      have d6 : wr.cell? ⟨b, o + k * 7 + 6, none⟩ = some (.slice va (G.Ms k).m vc) := by rw [← hvk]; exact cc 6 (by omega)
      have b2 := (Below.refl wr.heap.size wr).alloc (Nat.le_refl _) (.cells #[.int .i64 (G.Ms k).ad, .int .i64 (G.Ms k).kd, .int .i64 (G.Ms k).qt, .int .i64 (G.Ms k).x, .int .i64 (G.Ms k).y, .int .i64 (G.Ms k).pt, .slice va (G.Ms k).m vc] 24)
      have HM : Hid (At _ _ _ _) := Lib.hid (At.new wr #[.int .i64 (G.Ms k).ad, .int .i64 (G.Ms k).kd, .int .i64 (G.Ms k).qt, .int .i64 (G.Ms k).x, .int .i64 (G.Ms k).y, .int .i64 (G.Ms k).pt, .slice va (G.Ms k).m vc] 24)
      have HW2 := Lib.hid (chain HW.out b2)
      have HK := Lib.hid (fun V => rOf_any (G.Ms k).kd V)
      unfold parts at HK
      have HFt := Lib.hid (fun V => Rf.rFits_any n G.num (G.Ms k).ad (G.Ms k).x (G.Ms k).y V)
      obtain ⟨zI, hI2⟩ : ∃ z, pI (G.Ms k).kd = z := ⟨_, rfl⟩
      obtain ⟨zQ, hzQ⟩ : ∃ z, pQ (G.Ms k).kd = z := ⟨_, rfl⟩
      obtain ⟨zV', hzV⟩ : ∃ z, pV (G.Ms k).kd = z := ⟨_, rfl⟩
      obtain ⟨zF, hzF⟩ : ∃ z, pF (G.Ms k).kd = z := ⟨_, rfl⟩
      obtain ⟨zC, hzC⟩ : ∃ z, pC (G.Ms k).kd = z := ⟨_, rfl⟩
      obtain ⟨KE, hKE⟩ : ∃ z, kE (G.Ms k).kd = z := ⟨_, rfl⟩
      rw [hI2, hzQ, hzV, hzF, hzC, hKE] at HK
      obtain ⟨VE, hVE⟩ : ∃ z, Mo.vE n G.num (G.Ms k).ad (G.Ms k).x (G.Ms k).y = z := ⟨_, rfl⟩
      rw [hVE] at HFt
      have HFI : Hid (fits n G.num G.Ms G.m → ¬ (zV' = true ∧ VE ≠ 0)) := Lib.hid (fun h => by have := h k hkm; rwa [hzV, hVE] at this)
      have HFN : Hid (¬ (zV' = true ∧ VE ≠ 0) → fits n G.num G.Ms (k + 1)) := Lib.hid (fun h j hj => by
        by_cases e : j = k
        · rw [e, hzV, hVE]; exact h
        · exact HFi.out j (by omega))
      clear hI hc hr cc hvk b2 hI2 hzQ hzV hzF hzC hKE hVE
      go_upto_region 5 with fail
      clear d0 d1 d2 d3 d4 d5 d6 c3
      have k1 := HM.out.cell 1 _ rfl
      go_wp2_with fail
      refine (HK.out _).mono ?_
      rintro e w5 ⟨rfl, b5⟩
      have b6 := (Below.refl w5.heap.size w5).alloc (Nat.le_refl _) (.cells #[.bool zI, .bool zQ, .bool zV', .bool zF, .bool zC] 67)
      have HP := Lib.hid (At.new w5 #[.bool zI, .bool zQ, .bool zV', .bool zF, .bool zC] 67)
      have HM := Lib.hid ((HM.out.below b5).below b6)
      have HW3 := Lib.hid (chain (chain HW2.out b5) b6)
      clear b5 b6 k1 HK
      go_upto_region 6 with fail
      generalize w5.alloc (.cells #[.bool zI, .bool zQ, .bool zV', .bool zF, .bool zC] 67) = V5 at *
      have k0 := HM.out.cell 0 _ rfl
      have c0 := (K0.out.below HW3.out).cell 0 _ rfl
      have b7 := (Below.refl V5.heap.size V5).alloc (Nat.le_refl _) (.cells #[.int .i64 n, .int .i64 G.num, .int .i64 (G.Ms k).ad] 28)
      have HS := Lib.hid (At.new V5 #[.int .i64 n, .int .i64 G.num, .int .i64 (G.Ms k).ad] 28)
      have HP := Lib.hid (HP.out.below b7)
      have HM := Lib.hid (HM.out.below b7)
      have HW4 := Lib.hid (chain HW3.out b7)
      clear b7
      go_upto_region 7 with fail
      generalize V5.alloc (.cells #[.int .i64 n, .int .i64 G.num, .int .i64 (G.Ms k).ad] 28) = V6 at *
      clear k0 c0
      have p2 := HP.out.cell 2 _ rfl
      have s0 := HS.out.cell 0 _ rfl
      have s1 := HS.out.cell 1 _ rfl
      have s2 := HS.out.cell 2 _ rfl
      have k3 := HM.out.cell 3 _ rfl
      have k4 := HM.out.cell 4 _ rfl
      cases zV' with
      | false =>
        have HFN := Lib.hid (HFN.out (fun h => by cases h.1))
        go_wp2_with fail
        go_roundw
        case rel => exact ⟨k + 1, by omega, by go_num, HFN, HW4⟩
        case measure => simp [intOf]; omega
      | true =>
        by_cases hv : VE = 0
        · have t3 : (VE != 0) = false := by simp [hv]
          have HFK := Lib.hid (HFN.out (fun h => h.2 hv))
          clear hv HFN
          go_wp2_with (go_at_call 63; refine (HFt.out _).mono ?_; rintro e w6 ⟨rfl, b7⟩; have HW4 := Lib.hid (chain HW4.out b7); clear b7 p2 s0 s1 s2 k3 k4)
          go_roundw
          case rel => exact ⟨k + 1, by omega, by go_num, HFK, HW4⟩
          case measure => simp [intOf]; omega
        · have t3 : (VE != 0) = true := by simpa using hv
          have E'' : Hid (R = false) := Lib.hid (by rw [HR.out]; exact decide_eq_false (fun h => HFI.out h ⟨rfl, hv⟩))
          clear hv
          go_wp2_with (go_at_call 63; refine (HFt.out _).mono ?_; rintro e w6 ⟨rfl, b7⟩; have HW4 := Lib.hid (chain HW4.out b7); clear b7 p2 s0 s1 s2 k3 k4)
          go_ret
          exact ⟨by rw [E''.out]; rfl, chain HB.out HW4.out⟩
    · have kb : ¬ (k : Int) < (G.m : Int) := by omega
      have hk2 : k = G.m := by omega
      have E'' : Hid (R = true) := Lib.hid (by rw [HR.out]; exact decide_eq_true (by rw [← hk2]; exact HFi.out))
      clear hkm hk hk2
      go_wp2_with fail
      go_ret
      exact ⟨by rw [E''.out]; rfl, chain HB.out HW.out⟩
end
end Bl
end Go.Proofs.YtbmglemjfodfhaaGreat
namespace Go.Proofs.YtbmglemjfodfhaaGreat
open Go.RowKit
namespace Bl
open Bk Fr Pt Kd Bu
theorem n_of_fE {n : Int} (h : fE n = 0) : n = 0 ∨ n = 1 := by
  unfold fE at h
  split at h
  · assumption
  · omega
theorem cE_one {n g : Int} (h : fE n = 0) : cE n g 1 = if Nx.nEr n g ≠ 0 ∨ g = 0 then 8 else 0 := by
  have hn := n_of_fE h
  have h0 : inG n 0 = false := by rcases hn with rfl | rfl <;> decide +kernel
  unfold cE Nx.nEr
  rw [if_pos hn, if_pos hn]
  cases hg : inG n g with
  | true =>
    have hz : g ≠ 0 := by
      rintro rfl
      rw [h0] at hg
      cases hg
    simp [hz]
  | false => by_cases hz : g = 0 <;> simp [hz]
theorem macF_ahead {M : MB} {n g a : Int} {N NF : Nat} {q : Int} {F f : Nat → Int} (h : n = 0 ∨ n = 1) : macF M n g a N NF q F f = macF M n g a N (aN NF n) q (aF NF F) f := by
  by_cases h0 : NF = 0
  · subst h0
    have e1 : aN 0 n = Pa.gryN n := if_pos rfl
    obtain ⟨g1, g2, _⟩ := Pa.gry_in h
    have e2 : aF 0 F = fun _ => 128 := if_pos rfl
    have e3 : aF (Pa.gryN n) (fun _ => 128) = fun _ => 128 := if_neg (by omega)
    have e4 : smE M n g a (Pa.gryN n) q = smE M n g a 0 q := by
      unfold smE
      have : ((0 < Pa.gryN n ∧ (Pa.gryN n : Int) ≠ zV n) ∨ M.e ≠ 0 ∨ M.ad ≠ a) ↔ ((0 < 0 ∧ ((0 : Nat) : Int) ≠ zV n) ∨ M.e ≠ 0 ∨ M.ad ≠ a) := by
        constructor
        · rintro (⟨_, h⟩ | h)
          · exact absurd g1 h
          · exact .inr h
        · rintro (⟨h, _⟩ | h)
          · omega
          · exact .inr h
      simp only [this]
    rw [e1, e2]
    unfold macF macE
    rw [e3, e4, e2]
  · rw [show aN NF n = NF from if_neg h0, show aF NF F = F from if_neg h0]
def gpF (G : GB) (n : Int) (N NF : Nat) (F f : Nat → Int) : Nat → Int := if gE G n N NF = 0 then gP n G.num N (aN NF n) (aF NF F) f G.qt G.Ms G.m 33 else f
section
set_option maxRecDepth 100000
set_option maxHeartbeats 8000000
set_option linter.unusedVariables false
theorem rGroup_any (G : GB) (ma : Option Addr) (mc : Nat) (bt R tc : Nat) (fa : Option Addr) (N NF fc : Nat) (f F : Nat → Int) (n : Int) (w : World) (hms : Gsl w (.slice ma G.m mc) G.m G.Ms G.vb) (hsh : ∀ j, j < G.m → Short (G.Ms j))
    (hA : Arr w .u8 bt R f) (hR : N ≤ R) (h0 : 0 < R) (hRN : (N : Int) = zV n → R = N) (hs : Sl .u8 w (.slice fa NF fc) NF F) (hf : ∀ i, 0 ≤ F i ∧ F i ≤ 255) (hne : 0 < NF → ∀ x, fa = some x → x.block ≠ bt) (hG : ∀ V, w.grownBy V (some bt) → Gsl V (.slice ma G.m mc) G.m G.Ms G.vb) :
    Calls Tryz.prog 36 #[.slice (some ⟨bt, 0, none⟩) N tc, .slice fa NF fc, .int .i64 n, gv G (.slice ma G.m mc)] w fun e w' => e = .returned (.int .i64 (gE G n N NF)) ∧ Arr w' .u8 bt R (gpF G n N NF F f) ∧ w.grownBy w' (some bt) := by
  have hbt := hA.lt h0
  have HB := Lib.hid ((Below.refl w.heap.size w).alloc (Nat.le_refl _) (.cells #[.int .i64 G.num, .int .i64 G.qt, .slice G.sa G.sN G.sc, .slice ma G.m mc] 56))
  have K0 : Hid (At _ _ _ _) := Lib.hid (At.new w #[.int .i64 G.num, .int .i64 G.qt, .slice G.sa G.sN G.sc, .slice ma G.m mc] 56)
  have HM := Lib.hid hms
  have HS := Lib.hid (fun V => Rf.rSize_any n V)
  have HC := Lib.hid (fun V => Rf.rCorner_any n G.num 1 V)
  have HRs := Lib.hid (fun V h => rrises_any G (.slice ma G.m mc) V h hsh)
  have HFt := Lib.hid (fun V h => rfit_any G (.slice ma G.m mc) n V h)
  have E1 : Hid (fE n ≠ 0 → gE G n N NF = fE n) := Lib.hid (fun h => by unfold gE; rw [if_pos h])
  have E2 : Hid (fE n = 0 → cE n G.num 1 ≠ 0 → gE G n N NF = cE n G.num 1) := Lib.hid (fun h h2 => by
    rw [cE_one h] at h2 ⊢
    unfold gE
    rw [if_neg (by omega)]
    split
    · rfl
    · rename_i h3; rw [if_neg h3] at h2; exact absurd rfl h2)
  have E0 : fE n = 0 → cE n G.num 1 = 0 → ¬ (Nx.nEr n G.num ≠ 0 ∨ G.num = 0) := fun h h2 h3 => by
    rw [cE_one h, if_pos h3] at h2
    omega
  have E3 : Hid (fE n = 0 → cE n G.num 1 = 0 → (gB3 G n N NF ∨ ¬ rise G.Ms G.m) → gE G n N NF = 2) := Lib.hid (fun h h2 h3 => by
    unfold gE
    rw [if_neg (by omega), if_neg (E0 h h2)]
    by_cases h4 : gB3 G n N NF
    · rw [if_pos h4]
    · rw [if_neg h4, if_pos (h3.resolve_left h4)])
  have E4 : Hid (fE n = 0 → cE n G.num 1 = 0 → ¬ (gB3 G n N NF ∨ ¬ rise G.Ms G.m) → gE G n N NF = if fits n G.num G.Ms G.m then 0 else 12) := Lib.hid (fun h h2 h3 => by
    unfold gE
    rw [if_neg (by omega), if_neg (E0 h h2), if_neg (fun h => h3 (.inl h)), if_neg (fun h => h3 (.inr h))]
    by_cases h5 : fits n G.num G.Ms G.m
    · rw [if_neg (by simpa using h5), if_pos h5]
    · rw [if_pos h5, if_neg h5])
  obtain ⟨Rr, hRr⟩ : ∃ x, gE G n N NF = x := ⟨_, rfl⟩
  obtain ⟨PF, hPF⟩ : ∃ x, gpF G n N NF F f = x := ⟨_, rfl⟩
  have OUT : Hid (∀ w', Rr ≠ 0 → Below w.heap.size w w' → Arr w' .u8 bt R PF ∧ w.grownBy w' (some bt)) := Lib.hid (fun w' h hb => by
    rw [← hPF]
    unfold gpF
    rw [hRr, if_neg h]
    exact ⟨hA.below hb hbt, grown_of_below hb _⟩)
  have YES : Hid (Rr = 0 → PF = gP n G.num N (aN NF n) (aF NF F) f G.qt G.Ms G.m 33) := Lib.hid (fun h => by
    rw [← hPF]
    unfold gpF
    rw [hRr, if_pos h])
  have HN01 : Hid (fE n = 0 → n = 0 ∨ n = 1) := Lib.hid n_of_fE
  rw [hRr] at E1 E2 E3 E4
  rw [hRr, hPF]
  clear hRr hPF E0
  obtain ⟨EF, hEF⟩ : ∃ x, fE n = x := ⟨_, rfl⟩
  obtain ⟨EC, hEC⟩ : ∃ x, cE n G.num 1 = x := ⟨_, rfl⟩
  rw [hEF] at E1 E2 E3 E4 HS HN01
  rw [hEC] at E2 E3 E4 HC
  have H7 : Hid (gB3 G n N NF ↔ ((N : Int) ≠ zV n ∨ (0 < NF ∧ (NF : Int) ≠ zV n) ∨ G.qt < 1 ∨ 31 < G.qt)) := Lib.hid Iff.rfl
  obtain ⟨Z, hZ⟩ : ∃ x, zV n = x := ⟨_, rfl⟩
  rw [hZ] at HS H7
  have HRN := Lib.hid hRN
  have HA := Lib.hid hA
  have HSl := Lib.hid hs
  have HF := Lib.hid hf
  have HNE := Lib.hid hne
  have HG := Lib.hid hG
  have HSH := Lib.hid hsh
  clear hEF hEC hZ hms hsh hA hRN hs hf hne hG
  go_enter Tryz.func36, Tryz.ntmps36
  go_upto_region 1 with fail
  generalize w.alloc (.cells #[.int .i64 G.num, .int .i64 G.qt, .slice G.sa G.sN G.sc, .slice ma G.m mc] 56) = W1 at *
  have HBo := Lib.hid HB.out
  by_cases h0f : EF = 0
  case neg =>
    have t0 : (EF != 0) = true := by simpa using h0f
    have E := Lib.hid (E1.out h0f)
    have E' := Lib.hid (show Rr ≠ 0 by rw [E1.out h0f]; exact h0f)
    clear h0f E1 E2 E3 E4
    go_wp2_with (go_at_call 77; refine (HS.out _).mono ?_; rintro e w1 ⟨rfl, rfl⟩)
    go_ret
    exact ⟨by rw [E.out]; rfl, OUT.out _ E'.out HB.out⟩
  case pos =>
  have t0 : (EF != 0) = false := by simp [h0f]
  have c0 := K0.out.cell 0 _ rfl
  go_upto_region 5 with (first
    | (go_at_call 77; refine (HS.out _).mono ?_; rintro e w1 ⟨rfl, rfl⟩)
    | (go_at_call 59; refine (HC.out _).mono ?_; rintro e w1 ⟨rfl, b1⟩; have HW := Lib.hid b1; clear b1 c0))
  have K0 := Lib.hid (K0.out.below HW.out)
  have HB := Lib.hid (chain HB.out HW.out)
  by_cases h1f : EC = 0
  case neg =>
    have t1 : (EC != 0) = true := by simpa using h1f
    have E := Lib.hid (E2.out h0f h1f)
    have E' := Lib.hid (show Rr ≠ 0 by rw [E2.out h0f h1f]; exact h1f)
    clear h0f h1f E1 E2 E3 E4
    go_wp2_with fail
    go_ret
    exact ⟨by rw [E.out]; rfl, OUT.out _ E'.out HB.out⟩
  case pos =>
  have t1 : (EC != 0) = false := by simp [h1f]
  have E3 := Lib.hid (E3.out h0f h1f)
  have E4 := Lib.hid (E4.out h0f h1f)
  have HN01 := Lib.hid (HN01.out h0f)
  clear h0f h1f E1 E2 HBo
  go_upto_region 7 with fail
  obtain ⟨BB, hBB⟩ : ∃ b : Bool, b = decide (gB3 G n N NF ∨ ¬ rise G.Ms G.m) := ⟨_, rfl⟩
  have HBB := Lib.hid hBB
  clear hBB
  go_cut [45] (fun u wx => u = .bool BB ∧ Hid (Below w1.heap.size w1 wx))
  case first =>
    have HQ : Hid (BB = decide (((N : Int) ≠ Z ∨ (0 < NF ∧ (NF : Int) ≠ Z) ∨ G.qt < 1 ∨ 31 < G.qt) ∨ ¬ rise G.Ms G.m)) := Lib.hid (by rw [HBB.out]; exact decide_eq_decide.2 (or_congr H7.out Iff.rfl))
    have RS := Lib.hid (HRs.out w1 (HM.out.below HB.out))
    have HRR : Hid (decide (rise G.Ms G.m) = true ↔ rise G.Ms G.m) := Lib.hid decide_eq_true_iff
    obtain ⟨RB, hRB⟩ : ∃ b : Bool, decide (rise G.Ms G.m) = b := ⟨_, rfl⟩
    rw [hRB] at RS HRR
    have c1 := K0.out.cell 1 _ rfl
    have c3 := K0.out.cell 3 _ rfl
    have h0 := Lib.hid h0
    clear hRB HBB H7
    by_cases hN : (N : Int) = Z
    · have n1 : ((N : Int) != Z) = false := by simp [hN]
      by_cases h8 : 0 < NF
      · have n2 : (0 : Int) < (NF : Int) := by omega
        by_cases h9 : (NF : Int) = Z
        · have n3 : ((NF : Int) != Z) = false := by simp [h9]
          by_cases hq : G.qt < 1
          · have HQ' : Hid (BB = true) := Lib.hid (by rw [HQ.out]; exact decide_eq_true (.inl (.inr (.inr (.inl hq)))))
            clear hN h8 h9 HQ
            go_wp2_with fail
            go_meet
            exact ⟨by rw [HQ'.out], Lib.hid (Below.refl _ _)⟩
          · by_cases hq2 : 31 < G.qt
            · have HQ' : Hid (BB = true) := Lib.hid (by rw [HQ.out]; exact decide_eq_true (.inl (.inr (.inr (.inr hq2)))))
              clear hN h8 h9 HQ
              go_wp2_with fail
              go_meet
              exact ⟨by rw [HQ'.out], Lib.hid (Below.refl _ _)⟩
            · have HQ' : Hid (BB = !RB) := Lib.hid (by
                rw [HQ.out]
                cases RB with
                | true => exact decide_eq_false (fun h => by
                    rcases h with h | h
                    · omega
                    · exact h (HRR.out.1 rfl))
                | false => exact decide_eq_true (.inr (fun h => by cases HRR.out.2 h)))
              clear hN h8 h9 HQ
              go_wp2_with (go_at_call 78; refine RS.out.mono ?_; rintro e w2 ⟨rfl, b2⟩; have B2 := Lib.hid b2; clear b2 c1 c3)
              go_meet
              exact ⟨by rw [HQ'.out], B2⟩
        · have n3 : ((NF : Int) != Z) = true := by simpa using h9
          have HQ' : Hid (BB = true) := Lib.hid (by rw [HQ.out]; exact decide_eq_true (.inl (.inr (.inl ⟨h8, h9⟩))))
          clear hN h8 h9 HQ
          go_wp2_with fail
          go_meet
          exact ⟨by rw [HQ'.out], Lib.hid (Below.refl _ _)⟩
      · have n2 : ¬ (0 : Int) < (NF : Int) := by omega
        by_cases hq : G.qt < 1
        · have HQ' : Hid (BB = true) := Lib.hid (by rw [HQ.out]; exact decide_eq_true (.inl (.inr (.inr (.inl hq)))))
          clear hN h8 HQ
          go_wp2_with fail
          go_meet
          exact ⟨by rw [HQ'.out], Lib.hid (Below.refl _ _)⟩
        · by_cases hq2 : 31 < G.qt
          · have HQ' : Hid (BB = true) := Lib.hid (by rw [HQ.out]; exact decide_eq_true (.inl (.inr (.inr (.inr hq2)))))
            clear hN h8 HQ
            go_wp2_with fail
            go_meet
            exact ⟨by rw [HQ'.out], Lib.hid (Below.refl _ _)⟩
          · have HQ' : Hid (BB = !RB) := Lib.hid (by
              rw [HQ.out]
              cases RB with
              | true => exact decide_eq_false (fun h => by
                  rcases h with h | h
                  · omega
                  · exact h (HRR.out.1 rfl))
              | false => exact decide_eq_true (.inr (fun h => by cases HRR.out.2 h)))
            clear hN h8 HQ
            go_wp2_with (go_at_call 78; refine RS.out.mono ?_; rintro e w2 ⟨rfl, b2⟩; have B2 := Lib.hid b2; clear b2 c1 c3)
            go_meet
            exact ⟨by rw [HQ'.out], B2⟩
    · have n1 : ((N : Int) != Z) = true := by simpa using hN
      have HQ' : Hid (BB = true) := Lib.hid (by rw [HQ.out]; exact decide_eq_true (.inl (.inl hN)))
      clear hN HQ
      go_wp2_with fail
      go_meet
      exact ⟨by rw [HQ'.out], Lib.hid (Below.refl _ _)⟩
  case rest =>
  obtain ⟨rfl, HW2⟩ := hcut
  have K0 := Lib.hid (K0.out.below HW2.out)
  have HB := Lib.hid (chain HB.out HW2.out)
  cases BB with
  | true =>
    have E := Lib.hid (E3.out (of_decide_eq_true HBB.out.symm))
    have E' := Lib.hid (show Rr ≠ 0 by rw [E.out]; decide)
    go_wp2_with fail
    go_ret
    exact ⟨by rw [E.out]; rfl, OUT.out _ E'.out HB.out⟩
  | false =>
  have NB := Lib.hid (of_decide_eq_false HBB.out.symm)
  have E4 := Lib.hid (E4.out NB.out)
  have RI : Hid (rise G.Ms G.m) := Lib.hid (Classical.byContradiction fun h => NB.out (.inr h))
  clear E3 HBB
  have c0 := K0.out.cell 0 _ rfl
  have c1 := K0.out.cell 1 _ rfl
  have c2 := K0.out.cell 2 _ rfl
  have c3 := K0.out.cell 3 _ rfl
  by_cases hft : fits n G.num G.Ms G.m
  case neg =>
    have FT := Lib.hid (HFt.out _ (HM.out.below HB.out))
    rw [decide_eq_false hft] at FT
    have E := Lib.hid (show Rr = 12 by rw [E4.out, if_neg hft])
    have E' := Lib.hid (show Rr ≠ 0 by rw [E.out]; decide)
    clear hft E4
    go_wp2_with (go_at_call 79; refine FT.out.mono ?_; rintro e w2 ⟨rfl, b2⟩; have HB := Lib.hid (chain HB.out b2); clear b2 c0 c1 c2 c3)
    go_ret
    exact ⟨by rw [E.out]; rfl, OUT.out _ E'.out HB.out⟩
  case pos =>
  have FT := Lib.hid (HFt.out _ (HM.out.below HB.out))
  rw [decide_eq_true hft] at FT
  have E := Lib.hid (show Rr = 0 by rw [E4.out, if_pos hft])
  have YES := Lib.hid (YES.out E.out)
  clear hft E4 OUT
  go_upto_region 11 with (go_at_call 79; refine FT.out.mono ?_; rintro e w2 ⟨rfl, b2⟩; have HB := Lib.hid (chain HB.out b2); have K0 := Lib.hid (K0.out.below b2); clear b2 c0 c1 c2 c3)
  have c1 := K0.out.cell 1 _ rfl
  go_upto_region 12 with fail
  clear c1
  have HGB : Hid (w.grownBy w2 (some bt)) := Lib.hid (grown_of_below HB.out _)
  have K0 := Lib.hid K0.out
  have AA := Lib.hid (HA.out.below HB.out hbt)
  obtain ⟨A, hAN⟩ : ∃ x, aN NF n = x := ⟨_, rfl⟩
  obtain ⟨B, hAF⟩ : ∃ x, aF NF F = x := ⟨_, rfl⟩
  rw [hAN, hAF] at YES
  have SK : Hid (∀ (V : World) (g : Nat → Int) (k : Nat), Arr V .u8 bt R g → w.grownBy V (some bt) → Calls Tryz.prog 27 #[.slice (some ⟨bt, 0, none⟩) N tc, .slice fa NF fc, .agg #[.int .i64 n, .int .i64 G.num, .int .i64 ((k : Int) + 1)]] V fun e w' => (∃ x, e = .returned (.int .i64 x)) ∧ Arr w' .u8 bt R (Pa.copG n G.num ((k : Int) + 1) N A B g) ∧ V.grownBy w' (some bt)) := Lib.hid (fun V g k g1 g2 => by
    rw [← hAN, ← hAF]
    refine (rSkip_any bt N R tc fa NF fc g F n G.num ((k : Int) + 1) V g1 h0 HRN.out (Sl.grown' HSl.out g2 (fun h y e e2 => HNE.out h y e (Option.some.inj e2))) HNE.out).mono ?_
    rintro e w' ⟨h3, h4, h5⟩
    exact ⟨⟨_, h3⟩, h4, h5⟩)
  have MC : Hid (∀ (V : World) (g : Nat → Int) (k j : Nat) (q : Int) (vb : Value), Arr V .u8 bt R g → w.grownBy V (some bt) → (G.Ms j).at V vb → Calls Tryz.prog 24 #[.slice (some ⟨bt, 0, none⟩) N tc, .slice fa NF fc, .agg #[.int .i64 n, .int .i64 G.num, .int .i64 ((k : Int) + 1)], mv (G.Ms j) vb, .int .i64 q] V fun e w' => (∃ x, e = .returned (.int .i64 x)) ∧ Arr w' .u8 bt R (macF (G.Ms j) n G.num ((k : Int) + 1) N A q B g) ∧ V.grownBy w' (some bt)) := Lib.hid (fun V g k j q vb g1 g2 g3 => by
    rw [← hAN, ← hAF, ← macF_ahead HN01.out]
    refine (rMacro_any (G.Ms j) vb bt N R tc fa NF fc g F n G.num ((k : Int) + 1) q V g1 hR h0 HRN.out (Sl.grown' HSl.out g2 (fun h y e e2 => HNE.out h y e (Option.some.inj e2))) HF.out g3).mono ?_
    rintro e w' ⟨h3, h4, h5⟩
    exact ⟨⟨_, h3⟩, h4, h5⟩)
  clear HRN HSl HF HNE HN01 hAN hAF HM HS HC HRs HFt FT NB H7 HW HW2 HA
  have hbt' : w.heap.size ≠ bt := by omega
  have Hbt := Lib.hid hbt
  clear hbt h0 t0 t1
  go_wp2_with fail
  go_loopw [16, 17, 18] (fun q x i wr => ∃ k : Nat, k ≤ 33 ∧ q = .int .i64 (gQ G.qt G.Ms G.m k) ∧ x = .int .i64 (nx G.Ms G.m k) ∧ i = .int .i64 ((k : Int) + 1) ∧ Hid (Arr wr .u8 bt R (gP n G.num N A B f G.qt G.Ms G.m k)) ∧ Hid (w.grownBy wr (some bt)) ∧ Hid (At wr w.heap.size #[.int .i64 G.num, .int .i64 G.qt, .slice G.sa G.sN G.sc, .slice ma G.m mc] 56)) (fun _ _ i _ => 34 - (intOf i).toNat)
  case atStart => exact ⟨0, by omega, rfl, rfl, rfl, AA, HGB, K0⟩
  case round =>
    obtain ⟨k, hk, rfl, rfl, rfl, AA, HGB, K0⟩ := hrel
    by_cases hk33 : k < 33
    · have kb : (k : Int) + 1 ≤ 33 := by omega
      have ek : IntKind.i64.wrap ((k : Int) + 1 + 1) = (k : Int) + 1 + 1 := IntWalk.i64_in _ (by omega)
      obtain ⟨q0, hq0⟩ : ∃ x, gQ G.qt G.Ms G.m k = x := ⟨_, rfl⟩
      obtain ⟨g0, hg0⟩ : ∃ x, gP n G.num N A B f G.qt G.Ms G.m k = x := ⟨_, rfl⟩
      have nl := nx_le G.Ms G.m k
      have HH1 : Hid (hitB G.Ms G.m (nx G.Ms G.m k) k = true → gQ G.qt G.Ms G.m (k + 1) = (if 0 < (G.Ms (nx G.Ms G.m k)).qt then (G.Ms (nx G.Ms G.m k)).qt else q0) ∧ nx G.Ms G.m (k + 1) = nx G.Ms G.m k + 1 ∧ gP n G.num N A B f G.qt G.Ms G.m (k + 1) = macF (G.Ms (nx G.Ms G.m k)) n G.num ((k : Int) + 1) N A (gQ G.qt G.Ms G.m (k + 1)) B g0) := Lib.hid (fun h => ⟨by rw [gQ_hit h, hq0], nx_hit h, by rw [gP_hit h, hg0]⟩)
      have HH2 : Hid (hitB G.Ms G.m (nx G.Ms G.m k) k = false → gQ G.qt G.Ms G.m (k + 1) = q0 ∧ nx G.Ms G.m (k + 1) = nx G.Ms G.m k ∧ gP n G.num N A B f G.qt G.Ms G.m (k + 1) = Pa.copG n G.num ((k : Int) + 1) N A B g0) := Lib.hid (fun h => ⟨by rw [gQ_miss h, hq0], nx_miss h, by rw [gP_miss h, hg0]⟩)
      rw [hg0] at AA
      rw [hq0]
      obtain ⟨j, hj⟩ : ∃ x, nx G.Ms G.m k = x := ⟨_, rfl⟩
      rw [hj] at nl HH1 HH2
      rw [hj]
      have ej : IntKind.i64.wrap ((j : Int) + 1) = (j : Int) + 1 := IntWalk.i64_in _ (by omega)
      have zr := HGB.out.size
      clear hq0 hg0 hj
      have c0 := K0.out.cell 0 _ rfl
      have bs := (Below.refl wr.heap.size wr).alloc (Nat.le_refl _) (.cells #[.int .i64 n, .int .i64 G.num, .int .i64 ((k : Int) + 1)] 28)
      have HSP : Hid (At _ _ _ _) := Lib.hid (At.new wr #[.int .i64 n, .int .i64 G.num, .int .i64 ((k : Int) + 1)] 28)
      have hltr : bt < wr.heap.size := Nat.lt_of_lt_of_le Hbt.out zr
      have hlt2 := Lib.hid (Nat.lt_of_lt_of_le hltr bs.size)
      have AA := Lib.hid (AA.out.below bs hltr)
      have HGB := Lib.hid (grown_trans HGB.out (grown_of_below bs (some bt)))
      have K0 := Lib.hid (K0.out.below bs)
      clear bs
      go_upto_region 16 with fail
      clear c0
      generalize wr.alloc (.cells #[.int .i64 n, .int .i64 G.num, .int .i64 ((k : Int) + 1)] 28) = W2 at *
      have c3 := K0.out.cell 3 _ rfl
      by_cases hh : hitB G.Ms G.m j k = true
      · have HH := Lib.hid (HH1.out hh)
        obtain ⟨hjm, had⟩ := hitB_iff.1 hh
        clear hh HH1 HH2
        have HRJ := Lib.hid (RI.out j hjm).1
        obtain ⟨a', c', ev, p1, p2, p3⟩ := HG.out W2 HGB.out
        cases ev
        rcases p3 with h | ⟨b, o, e, hI⟩
        · omega
        subst e
        obtain ⟨hc, hraw⟩ := hI j hjm
        obtain ⟨va, vc, hvk, _, _, _⟩ := id hraw
        have MA := Lib.hid ((HSH.out j hjm).at hraw)
        rw [hvk] at MA
        have jb : (0 : Int) ≤ (j : Int) ∧ (j : Int) < (G.m : Int) := by omega
        have tn : ((j : Int) == (G.m : Int)) = false := by simp; omega
        have ta : ((G.Ms j).ad != (k : Int) + 1) = false := by simp [had]
        have d0 : W2.cell? ⟨b, o + j * 7, none⟩ = some (.int .i64 (G.Ms j).ad) := hc 0 (by omega)
        have d1 : W2.cell? ⟨b, o + j * 7 + 1, none⟩ = some (.int .i64 (G.Ms j).kd) := hc 1 (by omega)
        have d2 : W2.cell? ⟨b, o + j * 7 + 2, none⟩ = some (.int .i64 (G.Ms j).qt) := hc 2 (by omega)
        have d3 : W2.cell? ⟨b, o + j * 7 + 3, none⟩ = some (.int .i64 (G.Ms j).x) := hc 3 (by omega)
        have d4 : W2.cell? ⟨b, o + j * 7 + 4, none⟩ = some (.int .i64 (G.Ms j).y) := hc 4 (by omega)
        have d5 : W2.cell? ⟨b, o + j * 7 + 5, none⟩ = some (.int .i64 (G.Ms j).pt) := hc 5 (by omega)
        have d6 : W2.cell? ⟨b, o + j * 7 + 6, none⟩ = some (.slice va (G.Ms j).m vc) := by rw [← hvk]; exact hc 6 (by omega)
        clear hI hc hraw had hvk p1 p2 nl
        go_upto_region 18 with fail
        clear ta tn
        have b2 := (Below.refl W2.heap.size W2).alloc (Nat.le_refl _) (.cells #[.int .i64 (G.Ms j).ad, .int .i64 (G.Ms j).kd, .int .i64 (G.Ms j).qt, .int .i64 (G.Ms j).x, .int .i64 (G.Ms j).y, .int .i64 (G.Ms j).pt, .slice va (G.Ms j).m vc] 24)
        have HMB : Hid (At _ _ _ _) := Lib.hid (At.new W2 #[.int .i64 (G.Ms j).ad, .int .i64 (G.Ms j).kd, .int .i64 (G.Ms j).qt, .int .i64 (G.Ms j).x, .int .i64 (G.Ms j).y, .int .i64 (G.Ms j).pt, .slice va (G.Ms j).m vc] 24)
        have HB3 := Lib.hid b2
        have HK := Lib.hid (fun V => rOf_any (G.Ms j).kd V)
        have QP := Lib.hid (qt_pos HRJ.out)
        unfold parts at HK
        obtain ⟨zI, hI2⟩ : ∃ z, pI (G.Ms j).kd = z := ⟨_, rfl⟩
        obtain ⟨zQ, hzQ⟩ : ∃ z, pQ (G.Ms j).kd = z := ⟨_, rfl⟩
        obtain ⟨zV', hzV⟩ : ∃ z, pV (G.Ms j).kd = z := ⟨_, rfl⟩
        obtain ⟨zF, hzF⟩ : ∃ z, pF (G.Ms j).kd = z := ⟨_, rfl⟩
        obtain ⟨zC, hzC⟩ : ∃ z, pC (G.Ms j).kd = z := ⟨_, rfl⟩
        obtain ⟨KE, hKE⟩ : ∃ z, kE (G.Ms j).kd = z := ⟨_, rfl⟩
        rw [hI2, hzQ, hzV, hzF, hzC, hKE] at HK
        rw [hzQ] at QP
        clear b2 hI2 hzQ hzV hzF hzC hKE
        go_upto_region 19 with fail
        clear d0 d1 d2 d3 d4 d5 d6 c3
        have k1 := HMB.out.cell 1 _ rfl
        go_wp2_with fail
        refine (HK.out _).mono ?_
        rintro e w5 ⟨rfl, b5⟩
        have b6 := (Below.refl w5.heap.size w5).alloc (Nat.le_refl _) (.cells #[.bool zI, .bool zQ, .bool zV', .bool zF, .bool zC] 67)
        have HP := Lib.hid (At.new w5 #[.bool zI, .bool zQ, .bool zV', .bool zF, .bool zC] 67)
        have HMB := Lib.hid ((HMB.out.below b5).below b6)
        have HB4 := Lib.hid (chain (chain HB3.out b5) b6)
        clear b5 b6 k1 HK HB3
        go_upto_region 20 with fail
        generalize w5.alloc (.cells #[.bool zI, .bool zQ, .bool zV', .bool zF, .bool zC] 67) = V5 at *
        have p1 := HP.out.cell 1 _ rfl
        have k2 := HMB.out.cell 2 _ rfl
        have HSP := Lib.hid (HSP.out.below HB4.out)
        have AA := Lib.hid (AA.out.below HB4.out hlt2.out)
        have HGB := Lib.hid (grown_trans HGB.out (grown_of_below HB4.out (some bt)))
        have K0 := Lib.hid (K0.out.below HB4.out)
        have MA := Lib.hid (MA.out.below HB4.out)
        clear HB4 HP
        obtain ⟨q1, hq1⟩ : ∃ x, gQ G.qt G.Ms G.m (k + 1) = x := ⟨_, rfl⟩
        rw [hq1] at HH
        have HQ1 := Lib.hid hq1
        clear hq1
        have CALL := Lib.hid (MC.out V5 g0 k j q1 (.slice va (G.Ms j).m vc) AA.out HGB.out MA.out)
        cases zQ with
        | true =>
          have e1 : (G.Ms j).qt = q1 := by rw [HH.out.1, if_pos (QP.out.2 rfl)]
          rw [e1] at k2 HMB
          have CALL : Hid _ := CALL
          unfold mv at CALL
          rw [e1] at CALL
          clear e1
          go_upto_region 22 with fail
          clear p1 k2
          have s0 := HSP.out.cell 0 _ rfl
          have s1 := HSP.out.cell 1 _ rfl
          have s2 := HSP.out.cell 2 _ rfl
          have m0 := HMB.out.cell 0 _ rfl
          have m1 := HMB.out.cell 1 _ rfl
          have m2 := HMB.out.cell 2 _ rfl
          have m3 := HMB.out.cell 3 _ rfl
          have m4 := HMB.out.cell 4 _ rfl
          have m5 := HMB.out.cell 5 _ rfl
          have m6 := HMB.out.cell 6 _ rfl
          go_wp2_with (go_at_call 24; refine CALL.out.mono ?_; rintro e w7 ⟨⟨x7, rfl⟩, a7, g7⟩; have A7 := Lib.hid a7; have G7 := Lib.hid g7; clear a7 g7 s0 s1 s2 m0 m1 m2 m3 m4 m5 m6)
          go_roundw
          case rel => exact ⟨k + 1, by omega, by rw [HQ1.out], by rw [HH.out.2.1]; go_num, by go_num, by rw [HH.out.2.2]; exact A7, Lib.hid (grown_trans HGB.out G7.out), Lib.hid (K0.out.kept G7.out (fun e => hbt' (Option.some.inj e)))⟩
          case measure => simp [intOf]; omega
        | false =>
          have e1 : q0 = q1 := by rw [HH.out.1, if_neg (fun h => by cases QP.out.1 h)]
          subst e1
          go_upto_region 22 with fail
          clear p1 k2
          have s0 := HSP.out.cell 0 _ rfl
          have s1 := HSP.out.cell 1 _ rfl
          have s2 := HSP.out.cell 2 _ rfl
          have m0 := HMB.out.cell 0 _ rfl
          have m1 := HMB.out.cell 1 _ rfl
          have m2 := HMB.out.cell 2 _ rfl
          have m3 := HMB.out.cell 3 _ rfl
          have m4 := HMB.out.cell 4 _ rfl
          have m5 := HMB.out.cell 5 _ rfl
          have m6 := HMB.out.cell 6 _ rfl
          go_wp2_with (go_at_call 24; refine CALL.out.mono ?_; rintro e w7 ⟨⟨x7, rfl⟩, a7, g7⟩; have A7 := Lib.hid a7; have G7 := Lib.hid g7; clear a7 g7 s0 s1 s2 m0 m1 m2 m3 m4 m5 m6)
          go_roundw
          case rel => exact ⟨k + 1, by omega, by rw [HQ1.out], by rw [HH.out.2.1]; go_num, by go_num, by rw [HH.out.2.2]; exact A7, Lib.hid (grown_trans HGB.out G7.out), Lib.hid (K0.out.kept G7.out (fun e => hbt' (Option.some.inj e)))⟩
          case measure => simp [intOf]; omega
      · have hh' : hitB G.Ms G.m j k = false := by simpa using hh
        have HH := Lib.hid (HH2.out hh')
        have CALL := Lib.hid (SK.out W2 g0 k AA.out HGB.out)
        clear HH1 HH2 hh'
        have s0 := HSP.out.cell 0 _ rfl
        have s1 := HSP.out.cell 1 _ rfl
        have s2 := HSP.out.cell 2 _ rfl
        by_cases hjm : j < G.m
        · have had : (G.Ms j).ad ≠ (k : Int) + 1 := fun e => hh (hitB_iff.2 ⟨hjm, e⟩)
          obtain ⟨a', c', ev, p1, p2, p3⟩ := HG.out W2 HGB.out
          cases ev
          rcases p3 with h | ⟨b, o, e, hI⟩
          · omega
          subst e
          have jb : (0 : Int) ≤ (j : Int) ∧ (j : Int) < (G.m : Int) := by omega
          have tn : ((j : Int) == (G.m : Int)) = false := by simp; omega
          have ta : ((G.Ms j).ad != (k : Int) + 1) = true := by simpa using had
          have d0 : W2.cell? ⟨b, o + j * 7, none⟩ = some (.int .i64 (G.Ms j).ad) := (hI j hjm).1 0 (by omega)
          clear hI had p1 p2 nl hh
          go_wp2_with (go_at_call 27; refine CALL.out.mono ?_; rintro e w7 ⟨⟨x7, rfl⟩, a7, g7⟩; have A7 := Lib.hid a7; have G7 := Lib.hid g7; clear a7 g7 s0 s1 s2 d0 c3)
          go_roundw
          case rel => exact ⟨k + 1, by omega, by rw [HH.out.1], by rw [HH.out.2.1], by go_num, by rw [HH.out.2.2]; exact A7, Lib.hid (grown_trans HGB.out G7.out), Lib.hid (K0.out.kept G7.out (fun e => hbt' (Option.some.inj e)))⟩
          case measure => simp [intOf]; omega
        · have tn : ((j : Int) == (G.m : Int)) = true := by simp; omega
          clear nl hh hjm
          go_wp2_with (go_at_call 27; refine CALL.out.mono ?_; rintro e w7 ⟨⟨x7, rfl⟩, a7, g7⟩; have A7 := Lib.hid a7; have G7 := Lib.hid g7; clear a7 g7 s0 s1 s2 c3)
          go_roundw
          case rel => exact ⟨k + 1, by omega, by rw [HH.out.1], by rw [HH.out.2.1], by go_num, by rw [HH.out.2.2]; exact A7, Lib.hid (grown_trans HGB.out G7.out), Lib.hid (K0.out.kept G7.out (fun e => hbt' (Option.some.inj e)))⟩
          case measure => simp [intOf]; omega
    · have kb : ¬ (k : Int) + 1 ≤ 33 := by omega
      obtain rfl : k = 33 := by omega
      have HE := Lib.hid E.out
      clear hk33
      go_wp2_with fail
      go_ret
      rw [YES.out]
      exact ⟨by rw [E.out]; rfl, AA.out, HGB.out⟩
end
end Bl
end Go.Proofs.YtbmglemjfodfhaaGreat
