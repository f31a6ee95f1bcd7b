/- Whether a macroblock's lists are too long. | Blocks copied; blocks that are the same. | Macroblocks copied. | Two pictures by numbers. | BuildMacros: what the pictures and the macroblock are, behind each call. | BuildMacros. -/
import Derived.Test.YtbmglemjfodfhaaGreatMgBl2
import Derived.Test.YtbmglemjfodfhaaGreatMgMIn
import Derived.Test.YtbmglemjfodfhaaGreatMgPaG
import Derived.Test.YtbmglemjfodfhaaGreatMgPairIn
import Derived.Test.YtbmglemjfodfhaaGreatMgRs3
import Derived.Test.YtbmglemjfodfhaaGreatMgScIn
import Derived.Test.YtbmglemjfodfhaaGreatMgScb
import Derived.BigQuiet
import Derived.Deep.DeepCutAuto
import Derived.Deep.RegionHeld3
import Derived.Deep.RegionWith
import Derived.Lib.MinMax
set_option linter.unusedVariables false
set_option linter.unusedSimpArgs false

namespace Go.Proofs.YtbmglemjfodfhaaGreat
open Go.RowKit
namespace Bl
open Bk Fr Pt Kd Bu

/-- no list is too long. -/
def Short (M : MB) : Prop := M.m ≤ 8 ∧ ∀ j, j < M.m → M.nn j ≤ 70
theorem Short.at {M : MB} {w : World} {v : Value} (hs : Short M) (h : MB.raw M w v) : M.at w v := h.fit (fun j hj => Nat.le_trans (hs.2 j hj) (by omega))
def LongR (M : MB) (w : World) (e : Ending) (w' : World) : Prop := ∃ b : Bool, e = .returned (.bool b) ∧ (b = false → Short M) ∧ Below w.heap.size w w'
set_option maxRecDepth 100000 in
set_option maxHeartbeats 2000000 in
theorem LongMacro_any (M : MB) (vb : Value) (w : World) (h : MB.raw M w vb) :
    Calls Tryz.prog 11 #[mv M vb] w (LongR M w) := by
  have HB := Lib.hid ((Below.refl w.heap.size w).alloc (Nat.le_refl _) (.cells #[.int .i64 M.ad, .int .i64 M.kd, .int .i64 M.qt, .int .i64 M.x, .int .i64 M.y, .int .i64 M.pt, vb] 24))
  have H1 : Hid (At _ _ _ _) := Lib.hid (At.new w #[.int .i64 M.ad, .int .i64 M.kd, .int .i64 M.qt, .int .i64 M.x, .int .i64 M.y, .int .i64 M.pt, vb] 24)
  have HR := Lib.hid (h.below HB.out)
  clear h
  obtain ⟨a, c, hv, h1, h2, h3⟩ := HR.out
  subst hv
  have H3 := Lib.hid h3
  have c6 := H1.out.cell 6 _ rfl
  clear HR h3
  go_enter Tryz.func11, Tryz.ntmps11
  go_wp2_with fail
  generalize w.alloc (.cells #[.int .i64 M.ad, .int .i64 M.kd, .int .i64 M.qt, .int .i64 M.x, .int .i64 M.y, .int .i64 M.pt, .slice a M.m c] 24) = W1 at *
  go_loopw [3] (fun x wr => ∃ k : Nat, k ≤ M.m ∧ k ≤ 9 ∧ x = .int .i64 k ∧ wr = W1 ∧ Hid (∀ j, j < k → M.nn j ≤ 70)) (fun x _ => 9 - (intOf x).toNat)
  case atStart => exact ⟨0, by omega, by omega, rfl, rfl, Lib.hid (fun j hj => by omega)⟩
  case round =>
    obtain ⟨k, hk, hk9, rfl, rfl, HK⟩ := hrel
    by_cases hkm : k < M.m
    · by_cases hk8 : k < 9
      · have kb : (0 : Int) ≤ (k : Int) ∧ (k : Int) < (M.m : Int) ∧ (k : Int) < 9 := by omega
        rcases H3.out with h0 | ⟨b, o, rfl, hI⟩
        · omega
        obtain ⟨_, d2, _⟩ := hI k hkm
        by_cases h70 : M.nn k ≤ 70
        · have t1 : ¬ (70 : Int) < (M.nn k : Int) := by omega
          clear hI
          go_wp2_with fail
          go_roundw
          case rel => exact ⟨k + 1, by omega, by omega, by go_num, trivial, Lib.hid (fun j hj => by
            by_cases e : j = k
            · rw [e]; exact h70
            · exact HK.out j (by omega))⟩
          case measure => simp [intOf]; omega
        · have t1 : (70 : Int) < (M.nn k : Int) := by omega
          clear hI
          go_wp2_with fail
          go_ret
          exact ⟨true, rfl, (fun h => absurd h (by decide)), HB.out⟩
      · have t1 : ¬ (k : Int) < 9 := by omega
        have t2 : (k : Int) < (M.m : Int) := by omega
        have t3 : (8 : Int) < (M.m : Int) := by omega
        go_wp2_with fail
        go_ret
        exact ⟨true, rfl, (fun h => absurd h (by decide)), HB.out⟩
    · have e : k = M.m := by omega
      have t2 : ¬ (k : Int) < (M.m : Int) := by omega
      by_cases h8 : M.m ≤ 8
      · have t3 : ¬ (8 : Int) < (M.m : Int) := by omega
        have HS : Hid (Short M) := Lib.hid ⟨h8, fun j hj => HK.out j (by omega)⟩
        go_wp2_with fail
        go_ret
        exact ⟨false, rfl, fun _ => HS.out, HB.out⟩
      · have t3 : (8 : Int) < (M.m : Int) := by omega
        go_wp2_with fail
        go_ret
        exact ⟨true, rfl, (fun h => absurd h (by decide)), HB.out⟩
end Bl
end Go.Proofs.YtbmglemjfodfhaaGreat

namespace Go.Proofs.YtbmglemjfodfhaaGreat
open Go.RowKit
namespace Bl
open Bk Kd Sc

theorem news_pairs {w : World} {b o n : Nat} {r l : Nat → Int} (h : Pairs w b o n r l) : ∀ j u, (pcs r l n)[j]? = some u → w.cell? ((⟨b, o, none⟩ : Addr).add j) = some u := by
  intro j u hu
  have hj : j < n * 2 := by
    have := (List.getElem?_eq_some_iff.1 hu).1
    rwa [pcs_len] at this
  obtain ⟨p1, p2⟩ := pcs_get r l n (j / 2) (by omega)
  obtain ⟨e1, e2⟩ := h (j / 2) (by omega)
  rw [Addr.add_lit]
  rcases (by omega : j = j / 2 * 2 ∨ j = j / 2 * 2 + 1) with e | e
  · rw [e, p1] at hu
    rw [e, ← hu, ← e1]
  · rw [e, p2] at hu
    rw [e, ← hu, ← e2, Nat.add_assoc]
theorem one_pairs (r l : Nat → Int) : ∀ n, ∀ u ∈ pcs r l n, u.oneCell' = true
  | 0, u, h => by cases h
  | n + 1, u, h => by
    rw [pcs, List.mem_append] at h
    rcases h with h | h
    · exact one_pairs r l n u h
    · simp only [List.mem_cons, List.not_mem_nil, or_false] at h
      rcases h with rfl | rfl <;> rfl
theorem info_pair : (Tryz.prog.info? 179).map (fun i => (i.zero, i.size, i.bytes)) = some (some (.agg #[.int .i64 0, .int .i64 0]), 2, 16) := by kernel_rfl
/-- pairs of the call's own. -/
abbrev OwnP (w : World) (B : Nat) (v : Value) (n : Nat) (r l : Nat → Int) : Prop := w.ownsRow B 179 2 v n (pcs r l n)
theorem OwnP.form {w : World} {B : Nat} {v : Value} {n : Nat} {r l : Nat → Int} (h : OwnP w B v n r l) : ∃ q c, v = .slice q n c := by
  rcases h.2 with ⟨rfl, h0⟩ | ⟨g, cap, cur, rfl, _⟩
  · have : n = 0 := by simpa [pcs_len] using h0
    subst this
    exact ⟨_, _, rfl⟩
  · exact ⟨_, _, rfl⟩
theorem OwnP.pl {w : World} {B : Nat} {v : Value} {n : Nat} {r l : Nat → Int} (h : OwnP w B v n r l) : Pl w v n r l := (RPl.of_own h).pl
theorem own_apart {w : World} {B1 B2 n1 n2 s1 s2 : Nat} {e1 e2 : TypeId} {v1 v2 : Value} {l1 l2 : List Value} (he : e1 ≠ e2) (h1 : w.ownsRow B1 e1 s1 v1 n1 l1) (h2 : w.ownsRow B2 e2 s2 v2 n2 l2) : v1.ownBlock = none ∨ v1.ownBlock ≠ v2.ownBlock := by
  rcases h1.2 with ⟨rfl, _⟩ | ⟨g, cap, cur, rfl, _, hg, _⟩
  · exact .inl rfl
  · refine .inr fun e => ?_
    rcases h2.2 with ⟨rfl, _⟩ | ⟨g2, cap2, cur2, rfl, _, hg2, _⟩
    · simp [Value.ownBlock] at e
    · have e : g = g2 := by simpa [Value.ownBlock] using e
      subst e
      rw [hg] at hg2
      have := Option.some.inj hg2
      injection this with _ h _
      exact he h
theorem own_mono {w : World} {B B' n s : Nat} {e : TypeId} {v : Value} {l : List Value} (h : w.ownsRow B e s v n l) (hb : B' ≤ B) : w.ownsRow B' e s v n l := by
  refine ⟨h.1, ?_⟩
  rcases h.2 with h | ⟨g, cap, cur, rfl, h1, h2⟩
  · exact .inl h
  · exact .inr ⟨g, cap, cur, rfl, Nat.le_trans hb h1, h2⟩
theorem OwnP.keep {w w' : World} {B x : Nat} {v : Value} {n : Nat} {r l : Nat → Int} (h : OwnP w B v n r l) (hg : w.grownBy w' (some x)) (hx : x < B) : OwnP w' B v n r l :=
  World.ownsRow.kept h hg (by
    by_cases h0 : v.ownBlock = none
    · exact .inl h0
    · exact .inr (fun e => by have := (World.ownsRow.lt h _ e).1; omega))
def CpB (w : World) (dc : Int) (n : Nat) (r l : Nat → Int) (e : Ending) (w' : World) : Prop := ∃ v, e = .returned (.agg #[.int .i64 dc, v]) ∧ OwnP w' w.heap.size v n r l ∧ Below w.heap.size w w'
section
set_option maxRecDepth 100000
set_option maxHeartbeats 2000000
theorem CopyBlock_at (dc : Int) (ad : Addr) (n c : Nat) (r l : Nat → Int) (w : World) (hn : n ≤ 1000) (h1 : ∀ j u, (pcs r l n)[j]? = some u → w.cell? (ad.add j) = some u) :
    Calls Tryz.prog 58 #[bv dc (some ad) n c] w (CpB w dc n r l) := by
  obtain ⟨i0, hi, hz0, hz1, hz2⟩ := info_parts info_pair
  have b1 := (((Below.refl w.heap.size w).alloc (Nat.le_refl _) (.cells #[.int .i64 dc, .slice (some ad) n c] 74)).alloc (by simp) (.cells #[.int .i64 0, .slice none 0 0] 74)).alloc (by simp; omega) (.cells #[] 179)
  have HB := Lib.hid b1
  have NW := Lib.hid (fun j u h => (b1.cell (p := ad.add j) (World.block_lt_of_cell? w _ (h1 j u h))).trans (h1 j u h))
  have OW := Lib.hid (one_pairs r l n)
  have H0 : Hid (At _ _ _ _) := Lib.hid (((At.new w #[.int .i64 dc, .slice (some ad) n c] 74).below ((Below.refl _ _).alloc (Nat.le_refl _) (.cells #[.int .i64 0, .slice none 0 0] 74))).below ((Below.refl _ _).alloc (Nat.le_refl _) (.cells #[] 179)))
  have H1 : Hid (At _ _ _ _) := Lib.hid ((At.new (w.alloc (.cells #[.int .i64 dc, .slice (some ad) n c] 74)) #[.int .i64 0, .slice none 0 0] 74).below ((Below.refl _ _).alloc (Nat.le_refl _) (.cells #[] 179)))
  simp only [World.size_alloc] at H1
  have OWN := Lib.hid (World.ownsRow_made (base := w.heap.size + 2) (e := 179) (size := 2) ((w.alloc (.cells #[.int .i64 dc, .slice (some ad) n c] 74)).alloc (.cells #[.int .i64 0, .slice none 0 0] 74)) #[] 0 (by simp) (Nat.zero_le _) rfl)
  simp only [World.size_alloc] at OWN
  have k1 := H0.out.cell 1 _ rfl
  clear b1 h1
  go_enter Tryz.func58, Tryz.ntmps58
  go_wp2_with (at_builtin; go_loud (refine wpList_append_own _ rfl _ _ 72 rfl (w.heap.size + 2) 179 i0 (.agg #[.int .i64 0, .int .i64 0]) 2 16 Tryz.underlying72 hi hz0 hz1 hz2 rfl (by decide) _ _ _ rfl OWN.out ad n c (pcs r l n) rfl (pcs_len r l n) NW.out OW.out (by unfold maxLen; omega) (by omega) (by simp only [World.size_alloc]; omega) ?_; intro v' w1 hown hgr hnil; simp only [Nat.zero_add, List.nil_append] at hown; have hb1 := HB.out.grown hgr (by simp only [World.size_alloc]; omega) (fun q e => by have := (OWN.out.lt q e).1; omega); have H0 := Lib.hid (H0.out.kept hgr (fun e => by have := (OWN.out.lt _ e.symm).1; omega)); have H1 := Lib.hid (H1.out.kept hgr (fun e => by have := (OWN.out.lt _ e.symm).1; omega)); have HP := Lib.hid hown; have HB := Lib.hid hb1; clear hown hgr hnil hb1 k1 NW OW; have f1 : w1.frozen? ⟨w.heap.size, 1, none⟩ = false := frozen_of_row H0.out 1; have c0 := H0.out.cell 0 _ rfl; have c1 := H0.out.cell 1 _ rfl; have d0 := H1.out.cell 0 _ rfl; have d1 := H1.out.cell 1 _ rfl; have e0 : w1.frozen? ⟨w.heap.size + 1, 0, none⟩ = false := frozen_of_row H1.out 0; have e1 : w1.frozen? ⟨w.heap.size + 1, 1, none⟩ = false := frozen_of_row H1.out 1; obtain ⟨q, c', rfl⟩ := OwnP.form HP.out))
  have g1 := Kd.grown_cell w1 w.heap.size 1 (.slice q n c')
  have hlt := H1.out.lt
  have H1' : At _ _ _ _ := H1.out.kept g1 (fun e => by have e := Option.some.inj e; omega)
  have HP' := OwnP.keep HP.out g1 (by omega)
  have HB' := HB.out.grown g1 HB.out.size (fun q e => by have := Option.some.inj e; omega)
  have g2 := grown_set (Kd.grown_cell (w1.setCell ⟨w.heap.size, 1, none⟩ (.slice q n c')) (w.heap.size + 1) 0 (.int .i64 dc)) 1 (.slice q n c')
  refine bodyPost_ret (results_cell_row rfl _ _ (w.heap.size + 1) _ _ _ _ rfl (ob_set (ob_set H1' 0 (.int .i64 dc)) 1 (.slice q n c')) Tryz.underlying74 rfl (by kernel_rfl)) rfl ?_
  exact ⟨_, rfl, own_mono (OwnP.keep HP' g2 (by omega)) (by omega), HB'.grown g2 HB'.size (fun q e => by have := Option.some.inj e; omega)⟩
theorem CopyBlock_nil (dc : Int) (r l : Nat → Int) (w : World) :
    Calls Tryz.prog 58 #[bv dc none 0 0] w (CpB w dc 0 r l) := by
  have b1 := (((Below.refl w.heap.size w).alloc (Nat.le_refl _) (.cells #[.int .i64 dc, .slice none 0 0] 74)).alloc (by simp) (.cells #[.int .i64 0, .slice none 0 0] 74)).alloc (by simp; omega) (.cells #[] 179)
  have H0 : Hid (At _ _ _ _) := Lib.hid (((At.new w #[.int .i64 dc, .slice none 0 0] 74).below ((Below.refl _ _).alloc (Nat.le_refl _) (.cells #[.int .i64 0, .slice none 0 0] 74))).below ((Below.refl _ _).alloc (Nat.le_refl _) (.cells #[] 179)))
  have k1 := H0.out.cell 1 _ rfl
  have f1 : _ := frozen_of_row H0.out 1
  clear b1
  go_enter Tryz.func58, Tryz.ntmps58
  go_wp2_with fail
  have hb2 := (((Below.refl w.heap.size w).alloc (Nat.le_refl _) (.cells #[.int .i64 dc, .slice (some ⟨w.heap.size + 1 + 1, 0, none⟩) 0 0] 74)).alloc (by simp) (.cells #[.int .i64 dc, .slice (some ⟨w.heap.size + 1 + 1, 0, none⟩) 0 0] 74)).alloc (by simp; omega) (.cells #[] 179)
  have HR : At _ _ _ _ := (At.new (w.alloc (.cells #[.int .i64 dc, .slice (some ⟨w.heap.size + 1 + 1, 0, none⟩) 0 0] 74)) #[.int .i64 dc, .slice (some ⟨w.heap.size + 1 + 1, 0, none⟩) 0 0] 74).below ((Below.refl _ _).alloc (Nat.le_refl _) (.cells #[] 179))
  have OW2 := World.ownsRow_made (base := w.heap.size) (e := 179) (size := 2) ((w.alloc (.cells #[.int .i64 dc, .slice (some ⟨w.heap.size + 1 + 1, 0, none⟩) 0 0] 74)).alloc (.cells #[.int .i64 dc, .slice (some ⟨w.heap.size + 1 + 1, 0, none⟩) 0 0] 74)) #[] 0 (by simp; omega) (Nat.zero_le _) rfl
  simp only [World.size_alloc] at HR OW2
  refine bodyPost_ret (results_cell_row rfl _ _ (w.heap.size + 1) _ _ _ _ rfl HR Tryz.underlying74 rfl (by kernel_rfl)) rfl ?_
  exact ⟨_, rfl, OW2, hb2⟩
theorem CopyBlock_any (dc : Int) (q : Option Addr) (n c : Nat) (r l : Nat → Int) (w : World) (hn : n ≤ 1000) (h : Pl w (.slice q n c) n r l) :
    Calls Tryz.prog 58 #[bv dc q n c] w (CpB w dc n r l) := by
  obtain ⟨a, c', e, _, _, h3⟩ := h
  cases e
  rcases h3 with ⟨rfl, h5⟩ | ⟨b, o, rfl, _, h4⟩
  · cases q with
    | none =>
      obtain rfl : c = 0 := h5 rfl
      exact CopyBlock_nil dc r l w
    | some a => exact CopyBlock_at dc a 0 c r l w hn (fun j u h => by cases h)
  · exact CopyBlock_at dc _ n c r l w hn (news_pairs h4)
theorem SameBlock_true (dc : Int) (q1 q2 : Option Addr) (n c1 c2 : Nat) (r l : Nat → Int) (w : World) (hn : n ≤ 1000) (h1 : Pl w (.slice q1 n c1) n r l) (h2 : Pl w (.slice q2 n c2) n r l) :
    Calls Tryz.prog 72 #[bv dc q1 n c1, bv dc q2 n c2] w fun e w' => e = .returned (.bool true) ∧ Below w.heap.size w w' := by
  have b1 := ((Below.refl w.heap.size w).alloc (Nat.le_refl _) (.cells #[.int .i64 dc, .slice q1 n c1] 74)).alloc (by simp) (.cells #[.int .i64 dc, .slice q2 n c2] 74)
  have HB := Lib.hid b1
  have HS := Lib.hid (SamePairs_true _ _ n r l r l _ (by omega) (h1.below b1) (h2.below b1) (fun i _ => ⟨rfl, rfl⟩))
  have H0 : Hid (At _ _ _ _) := Lib.hid ((At.new w #[.int .i64 dc, .slice q1 n c1] 74).below ((Below.refl _ _).alloc (Nat.le_refl _) (.cells #[.int .i64 dc, .slice q2 n c2] 74)))
  have H1 : Hid (At _ _ _ _) := Lib.hid (At.new (w.alloc (.cells #[.int .i64 dc, .slice q1 n c1] 74)) #[.int .i64 dc, .slice q2 n c2] 74)
  simp only [World.size_alloc] at H1
  have a0 := H0.out.cell 0 _ rfl
  have a1 := H0.out.cell 1 _ rfl
  have d0 := H1.out.cell 0 _ rfl
  have d1 := H1.out.cell 1 _ rfl
  have t1 : (dc == dc) = true := by simp
  clear b1 h1 h2
  go_enter Tryz.func72, Tryz.ntmps72
  go_wp2_with (go_at_call 117; refine HS.out.mono ?_; rintro e w1 ⟨rfl, b2⟩; have HB := Lib.hid (chain HB.out b2); clear b2)
  go_ret
  exact ⟨rfl, HB.out⟩
/-- the same macroblock, in other memory. -/
def _root_.Go.Proofs.YtbmglemjfodfhaaGreat.Bk.MB.cp (M : MB) (q : Nat → Option Addr) (cc : Nat → Nat) : MB := ⟨M.ad, M.kd, M.qt, M.x, M.y, M.pt, M.m, M.dc, q, M.nn, cc, M.r, M.l⟩
theorem SameMacro_true (M : MB) (q : Nat → Option Addr) (cc : Nat → Nat) (va vb : Value) (w : World) (hA : (M.cp q cc).at w va) (hB : M.at w vb) :
    Calls Tryz.prog 28 #[mv M va, mv M vb] w fun e w' => e = .returned (.bool true) ∧ Below w.heap.size w w' := by
  have b1 := ((Below.refl w.heap.size w).alloc (Nat.le_refl _) (.cells #[.int .i64 M.ad, .int .i64 M.kd, .int .i64 M.qt, .int .i64 M.x, .int .i64 M.y, .int .i64 M.pt, va] 24)).alloc (by simp) (.cells #[.int .i64 M.ad, .int .i64 M.kd, .int .i64 M.qt, .int .i64 M.x, .int .i64 M.y, .int .i64 M.pt, vb] 24)
  have HB := Lib.hid b1
  have HA0 := Lib.hid (hA.below b1)
  have HB0 := Lib.hid (hB.below b1)
  have H0 : Hid (At _ _ _ _) := Lib.hid ((At.new w #[.int .i64 M.ad, .int .i64 M.kd, .int .i64 M.qt, .int .i64 M.x, .int .i64 M.y, .int .i64 M.pt, va] 24).below ((Below.refl _ _).alloc (Nat.le_refl _) (.cells #[.int .i64 M.ad, .int .i64 M.kd, .int .i64 M.qt, .int .i64 M.x, .int .i64 M.y, .int .i64 M.pt, vb] 24)))
  have H1 : Hid (At _ _ _ _) := Lib.hid (At.new (w.alloc (.cells #[.int .i64 M.ad, .int .i64 M.kd, .int .i64 M.qt, .int .i64 M.x, .int .i64 M.y, .int .i64 M.pt, va] 24)) #[.int .i64 M.ad, .int .i64 M.kd, .int .i64 M.qt, .int .i64 M.x, .int .i64 M.y, .int .i64 M.pt, vb] 24)
  simp only [World.size_alloc] at H1
  clear b1 hA hB
  obtain ⟨a1, c1, rfl, k1, k2, k3⟩ := id HA0.out
  obtain ⟨a2, c2, rfl, k4, k5, k6⟩ := id HB0.out
  dsimp only [MB.cp] at k1 k3
  have HK3 := Lib.hid k3
  have HK6 := Lib.hid k6
  have a0 := H0.out.cell 0 _ rfl
  have a1' := H0.out.cell 1 _ rfl
  have a2' := H0.out.cell 2 _ rfl
  have a3 := H0.out.cell 3 _ rfl
  have a4 := H0.out.cell 4 _ rfl
  have a5 := H0.out.cell 5 _ rfl
  have a6 := H0.out.cell 6 _ rfl
  have d0 := H1.out.cell 0 _ rfl
  have d1 := H1.out.cell 1 _ rfl
  have d2 := H1.out.cell 2 _ rfl
  have d3 := H1.out.cell 3 _ rfl
  have d4 := H1.out.cell 4 _ rfl
  have d5 := H1.out.cell 5 _ rfl
  have d6 := H1.out.cell 6 _ rfl
  clear k3 k6 HA0 HB0
  dsimp only [MB.cp] at *
  go_enter Tryz.func28, Tryz.ntmps28
  go_upto_region 1 with fail
  generalize (w.alloc (.cells #[.int .i64 M.ad, .int .i64 M.kd, .int .i64 M.qt, .int .i64 M.x, .int .i64 M.y, .int .i64 M.pt, .slice a1 M.m c1] 24)).alloc (.cells #[.int .i64 M.ad, .int .i64 M.kd, .int .i64 M.qt, .int .i64 M.x, .int .i64 M.y, .int .i64 M.pt, .slice a2 M.m c2] 24) = W1 at *
  go_wp2_with fail
  go_loopw [5] (fun x wr => ∃ k : Nat, k ≤ M.m ∧ x = .int .i64 k ∧ Hid (Below W1.heap.size W1 wr)) (fun x _ => M.m - (intOf x).toNat)
  case atStart => exact ⟨0, by omega, rfl, Lib.hid (Below.refl _ _)⟩
  case round =>
    clear a0 a1' a2' a3 a4 a5 d0 d1 d2 d3 d4 d5
    obtain ⟨k, hk, rfl, HW⟩ := hrel
    have a6 := (H0.out.below HW.out).cell 6 _ rfl
    have d6 := (H1.out.below HW.out).cell 6 _ rfl
    by_cases hkm : k < M.m
    · have kb : (0 : Int) ≤ (k : Int) ∧ (k : Int) < (M.m : Int) := by omega
      have ek : IntKind.i64.wrap ((k : Int) + 1) = (k : Int) + 1 := IntWalk.i64_in _ (by have h2q := k5; unfold maxLen at h2q; omega)
      rcases HK3.out with h0 | ⟨b1, o1, rfl, i1⟩
      · omega
      rcases HK6.out with h0 | ⟨b2, o2, rfl, i2⟩
      · omega
      obtain ⟨e1, e2, p1, n1⟩ := i1 k hkm
      obtain ⟨f1, f2, p2, _⟩ := i2 k hkm
      have SB : Hid (∀ V, Below W1.heap.size W1 V → Calls Tryz.prog 72 #[bv (M.dc k) (q k) (M.nn k) (cc k), bv (M.dc k) (M.q k) (M.nn k) (M.cc k)] V fun e w' => e = .returned (.bool true) ∧ Below V.heap.size V w') := Lib.hid (fun V hV => SameBlock_true _ _ _ _ _ _ _ _ V n1 (p1.below hV) (p2.below hV))
      have q1 := Past.cell (show wr.cell? ⟨w.heap.size, 6, none⟩ = some (.slice (some ⟨b1, o1, none⟩) M.m c1) from a6)
      have q2 := Past.cell (show wr.cell? ⟨w.heap.size + 1, 6, none⟩ = some (.slice (some ⟨b2, o2, none⟩) M.m c2) from d6)
      have q3 := Past.cell ((HW.out.cell (p := ⟨b1, o1 + k * 2, none⟩) (World.block_lt_of_cell? _ _ e1)).trans e1)
      have q4 := Past.cell ((HW.out.cell (p := ⟨b1, o1 + k * 2 + 1, none⟩) (World.block_lt_of_cell? _ _ e2)).trans e2)
      have q5 := Past.cell ((HW.out.cell (p := ⟨b2, o2 + k * 2, none⟩) (World.block_lt_of_cell? _ _ f1)).trans f1)
      have q6 := Past.cell ((HW.out.cell (p := ⟨b2, o2 + k * 2 + 1, none⟩) (World.block_lt_of_cell? _ _ f2)).trans f2)
      clear e1 e2 p1 f1 f2 p2 i1 i2
      go_upto_region 6 with fail
      clear a6 d6
      refine wp_region_past (by kernel_rfl) (by kernel_rfl) ?_
      repeat (go_big_quiet_step ((go_at_call 72; exact past_call (SB.out _ (chain HW.out (Past.kept _))))))
      refine wpQuiet_nil ?_
      rintro _ ⟨⟨w4, h4⟩, rfl⟩
      have HW := Lib.hid (chain HW.out h4)
      clear q1 q2 q3 q4 q5 q6 h4
      go_wp2_with fail
      go_roundw
      case rel => exact ⟨k + 1, by omega, by go_num, HW⟩
      case measure => simp [intOf]; omega
    · have kb : ¬ (k : Int) < (M.m : Int) := by omega
      go_wp2_with fail
      go_ret
      exact ⟨rfl, chain HB.out HW.out⟩
end
end Bl
end Go.Proofs.YtbmglemjfodfhaaGreat

namespace Go.Proofs.YtbmglemjfodfhaaGreat
open Go.RowKit
namespace Bl
open Bk Kd Sc

theorem bcs_congr {dc : Nat → Int} {q q' : Nat → Option Addr} {nn cc cc' : Nat → Nat} : ∀ n, (∀ i, i < n → q i = q' i ∧ cc i = cc' i) → bcs dc q nn cc n = bcs dc q' nn cc' n
  | 0, _ => rfl
  | n + 1, h => by
    rw [bcs, bcs, bcs_congr n (fun i hi => h i (by omega)), (h n (by omega)).1, (h n (by omega)).2]
/-- blocks copied so far. -/
structure Cop (w : World) (B : Nat) (M : MB) (v : Value) (k : Nat) (Q : Nat → Option Addr) (C : Nat → Nat) : Prop where
  own : w.ownsRow B 74 2 v k (bcs M.dc Q M.nn C k)
  row : ∀ j, j < k → OwnP w B (.slice (Q j) (M.nn j) (C j)) (M.nn j) (M.r j) (M.l j)
theorem own_below {w w' : World} {B n s : Nat} {e : TypeId} {v : Value} {l : List Value} (h : w.ownsRow B e s v n l) (hb : Below w.heap.size w w') : w'.ownsRow B e s v n l :=
  World.ownsRow.kept h (grown_of_below hb none) (by cases hv : Value.ownBlock v <;> simp)
theorem Cop.below {w w' : World} {B : Nat} {M : MB} {v : Value} {k : Nat} {Q : Nat → Option Addr} {C : Nat → Nat} (h : Cop w B M v k Q C) (hb : Below w.heap.size w w') : Cop w' B M v k Q C :=
  ⟨own_below h.own hb, fun j hj => own_below (h.row j hj) hb⟩
theorem Cop.keep {w w' : World} {B x : Nat} {M : MB} {v : Value} {k : Nat} {Q : Nat → Option Addr} {C : Nat → Nat} (h : Cop w B M v k Q C) (hg : w.grownBy w' (some x)) (hx : x < B) : Cop w' B M v k Q C :=
  ⟨World.ownsRow.kept h.own hg (by
    by_cases h0 : v.ownBlock = none
    · exact .inl h0
    · exact .inr (fun e => by have := (World.ownsRow.lt h.own _ e).1; omega)), fun j hj => OwnP.keep (h.row j hj) hg hx⟩
theorem Cop.snoc {w w' : World} {B : Nat} {M : MB} {v v' : Value} {k : Nat} {Q : Nat → Option Addr} {C : Nat → Nat} {q : Option Addr} {c : Nat} {tmp : Obj} (h : Cop w B M v k Q C) (hp : OwnP w B (.slice q (M.nn k) c) (M.nn k) (M.r k) (M.l k))
    (hown : w'.ownsRow B 74 2 v' (k + 1) (bcs M.dc Q M.nn C k ++ [.int .i64 (M.dc k), .slice q (M.nn k) c])) (hg : (w.alloc tmp).grownBy w' v.ownBlock) : Cop w' B M v' (k + 1) (fun i => if i = k then q else Q i) (fun i => if i = k then c else C i) := by
  have e : bcs M.dc (fun i => if i = k then q else Q i) M.nn (fun i => if i = k then c else C i) (k + 1) = bcs M.dc Q M.nn C k ++ [.int .i64 (M.dc k), .slice q (M.nn k) c] := by
    rw [bcs, bcs_congr (q' := Q) (cc' := C) k (fun i hi => ⟨if_neg (by omega), if_neg (by omega)⟩), if_pos rfl, if_pos rfl]
  have kept : ∀ u n r l, OwnP w B u n r l → OwnP w' B u n r l := fun u n r l hu => by
    have b := (Below.refl w.heap.size w).alloc (Nat.le_refl _) tmp
    have h1 := own_below hu b
    have h2 := own_below h.own b
    exact World.ownsRow.kept h1 hg (own_apart (by decide) h1 h2)
  refine ⟨by rw [e]; exact hown, fun j hj => ?_⟩
  by_cases hjk : j = k
  · subst hjk
    simp only [if_pos]
    exact kept _ _ _ _ hp
  · simp only [if_neg hjk]
    exact kept _ _ _ _ (h.row j (by omega))
theorem Cop.bsl {w : World} {B : Nat} {M : MB} {v : Value} {Q : Nat → Option Addr} {C : Nat → Nat} (h : Cop w B M v M.m Q C) (hn : ∀ j, j < M.m → M.nn j ≤ 1000) : (M.cp Q C).at w v :=
  bsl_of_own h.own (fun j hj => ⟨OwnP.pl (h.row j hj), hn j hj⟩)
section
set_option maxRecDepth 100000
set_option maxHeartbeats 4000000
set_option linter.unusedVariables false
theorem CopyMacro_any (M : MB) (vb : Value) (w : World) (hM : M.at w vb) (h8 : M.m ≤ 8) :
    Calls Tryz.prog 20 #[mv M vb] w fun e w' => ∃ Q C va, e = .returned (mv M va) ∧ Cop w' (w.heap.size + 2) M va M.m Q C ∧ Below w.heap.size w w' := by
  obtain ⟨i0, hi, hz0, hz1, hz2⟩ := info_parts info_blk
  have b1 := ((Below.refl w.heap.size w).alloc (Nat.le_refl _) (.cells #[.int .i64 M.ad, .int .i64 M.kd, .int .i64 M.qt, .int .i64 M.x, .int .i64 M.y, .int .i64 M.pt, vb] 24)).alloc (by simp) (.cells #[.int .i64 0, .int .i64 0, .int .i64 0, .int .i64 0, .int .i64 0, .int .i64 0, .slice none 0 0] 24)
  have HB := Lib.hid b1
  have HA0 := Lib.hid (hM.below b1)
  have H0 : Hid (At _ _ _ _) := Lib.hid ((At.new w #[.int .i64 M.ad, .int .i64 M.kd, .int .i64 M.qt, .int .i64 M.x, .int .i64 M.y, .int .i64 M.pt, vb] 24).below ((Below.refl _ _).alloc (Nat.le_refl _) (.cells #[.int .i64 0, .int .i64 0, .int .i64 0, .int .i64 0, .int .i64 0, .int .i64 0, .slice none 0 0] 24)))
  have H1 : Hid (At _ _ _ _) := Lib.hid (At.new (w.alloc (.cells #[.int .i64 M.ad, .int .i64 M.kd, .int .i64 M.qt, .int .i64 M.x, .int .i64 M.y, .int .i64 M.pt, vb] 24)) #[.int .i64 0, .int .i64 0, .int .i64 0, .int .i64 0, .int .i64 0, .int .i64 0, .slice none 0 0] 24)
  simp only [World.size_alloc] at H1
  have hs0 : w.heap.size + 2 = ((w.alloc (.cells #[.int .i64 M.ad, .int .i64 M.kd, .int .i64 M.qt, .int .i64 M.x, .int .i64 M.y, .int .i64 M.pt, vb] 24)).alloc (.cells #[.int .i64 0, .int .i64 0, .int .i64 0, .int .i64 0, .int .i64 0, .int .i64 0, .slice none 0 0] 24)).heap.size := by simp
  clear b1 hM
  obtain ⟨qa, ca, rfl, k1, k2, k3⟩ := id HA0.out
  have HK3 := Lib.hid k3
  clear k3 HA0
  go_enter Tryz.func20, Tryz.ntmps20
  go_upto_region 1 with fail
  generalize (w.alloc (.cells #[.int .i64 M.ad, .int .i64 M.kd, .int .i64 M.qt, .int .i64 M.x, .int .i64 M.y, .int .i64 M.pt, .slice qa M.m ca] 24)).alloc (.cells #[.int .i64 0, .int .i64 0, .int .i64 0, .int .i64 0, .int .i64 0, .int .i64 0, .slice none 0 0] 24) = W1 at *
  go_wp2_with fail
  go_loopw [4, 3] (fun x v wr => ∃ (k : Nat) (Q : Nat → Option Addr) (C : Nat → Nat), k ≤ M.m ∧ x = .int .i64 k ∧ Hid (Cop wr (w.heap.size + 2) M v k Q C) ∧ Hid (Below W1.heap.size W1 wr)) (fun x _ _ => M.m - (intOf x).toNat)
  case atStart => exact ⟨0, fun _ => none, fun _ => 0, by omega, rfl, Lib.hid ⟨World.ownsRow_nil _ _ _ _, fun j hj => by omega⟩, Lib.hid (Below.refl _ _)⟩
  case round =>
    obtain ⟨k, Q, C, hk, rfl, HC, HW⟩ := hrel
    have H0 := Lib.hid (H0.out.below HW.out)
    have a6 := H0.out.cell 6 _ rfl
    have hsz := HW.out.size
    by_cases hkm : k < M.m
    · have kb : (0 : Int) ≤ (k : Int) ∧ (k : Int) < (M.m : Int) := by omega
      have ek : IntKind.i64.wrap ((k : Int) + 1) = (k : Int) + 1 := IntWalk.i64_in _ (by omega)
      rcases HK3.out with h0 | ⟨b, o, rfl, i1⟩
      · omega
      obtain ⟨e1, e2, p1, n1⟩ := i1 k hkm
      have e1 := (HW.out.cell (p := ⟨b, o + k * 2, none⟩) (World.block_lt_of_cell? _ _ e1)).trans e1
      have e2 := (HW.out.cell (p := ⟨b, o + k * 2 + 1, none⟩) (World.block_lt_of_cell? _ _ e2)).trans e2
      have CB := Lib.hid (CopyBlock_any (M.dc k) (M.q k) (M.nn k) (M.cc k) (M.r k) (M.l k) wr n1 (p1.below HW.out))
      clear p1 i1
      go_wp2_with (first
        | (go_at_call 58; refine CB.out.mono ?_; rintro e w1 ⟨v1, rfl, hP, b1⟩; obtain ⟨q1, c1, rfl⟩ := OwnP.form hP; have HP := Lib.hid (own_mono hP (show w.heap.size + 2 ≤ wr.heap.size by omega)); have HC := Lib.hid (HC.out.below b1); have HW := Lib.hid (chain HW.out b1); have hsz := HW.out.size; clear hP b1 a6 e1 e2)
        | (at_builtin; refine wpList_append_own _ rfl _ _ 22 rfl (w.heap.size + 2) 74 i0 (.agg #[.int .i64 0, .slice none 0 0]) 2 32 Tryz.underlying22 hi hz0 hz1 hz2 rfl (by decide) _ _ _ rfl (HC.out.own.alloc _) ⟨w1.heap.size, 0, none⟩ 1 1 [.int .i64 (M.dc k), .slice q1 (M.nn k) c1] rfl rfl (World.news_of_block (cs := #[.int .i64 (M.dc k), .slice q1 (M.nn k) c1]) (t := 74) (fr := (0, 0)) (heap_alloc_new w1 _)) (by simp [Value.oneCell']) (by unfold maxLen; omega) (by omega) (by simp only [World.size_alloc]; omega) ?_; intro v' w5 hown2 hgr hnil; have HC5 := Lib.hid (HC.out.snoc HP.out hown2 hgr); have HW5 := Lib.hid ((HW.out.alloc HW.out.size _).grown hgr (by simp only [World.size_alloc]; omega) (fun q hq => by have := (HC.out.own.lt q hq).1; omega)); clear hown2 hgr hnil))
      go_roundw
      case rel => exact ⟨k + 1, _, _, by omega, by go_num, HC5, HW5⟩
      case measure => simp [intOf]; omega
    · have hk7 : k = M.m := by omega
      have kb : ¬ (k : Int) < (M.m : Int) := by omega
      have H1 := Lib.hid (H1.out.below HW.out)
      clear hk hkm
      subst hk7
      obtain ⟨va, vm, vc, rfl⟩ := own_slice HC.out.own
      have c0 := H0.out.cell 0 _ rfl
      have c1 := H0.out.cell 1 _ rfl
      have c2 := H0.out.cell 2 _ rfl
      have c3 := H0.out.cell 3 _ rfl
      have c4 := H0.out.cell 4 _ rfl
      have c5 := H0.out.cell 5 _ rfl
      have f6 : wr.frozen? ⟨w.heap.size, 6, none⟩ = false := frozen_of_row H0.out 6
      have d0 := H1.out.cell 0 _ rfl
      have d1 := H1.out.cell 1 _ rfl
      have d2 := H1.out.cell 2 _ rfl
      have d3 := H1.out.cell 3 _ rfl
      have d4 := H1.out.cell 4 _ rfl
      have d5 := H1.out.cell 5 _ rfl
      have d6 := H1.out.cell 6 _ rfl
      have g0 : wr.frozen? ⟨w.heap.size + 1, 0, none⟩ = false := frozen_of_row H1.out 0
      have g1 : wr.frozen? ⟨w.heap.size + 1, 1, none⟩ = false := frozen_of_row H1.out 1
      have g2 : wr.frozen? ⟨w.heap.size + 1, 2, none⟩ = false := frozen_of_row H1.out 2
      have g3 : wr.frozen? ⟨w.heap.size + 1, 3, none⟩ = false := frozen_of_row H1.out 3
      have g4 : wr.frozen? ⟨w.heap.size + 1, 4, none⟩ = false := frozen_of_row H1.out 4
      have g5 : wr.frozen? ⟨w.heap.size + 1, 5, none⟩ = false := frozen_of_row H1.out 5
      have g6 : wr.frozen? ⟨w.heap.size + 1, 6, none⟩ = false := frozen_of_row H1.out 6
      go_wp2_with fail
      have hg1 := Kd.grown_cell wr w.heap.size 6 (.slice va vm vc)
      have H1' : At _ _ _ _ := H1.out.kept hg1 (fun e => by have e := Option.some.inj e; omega)
      obtain ⟨hA7, hg7⟩ := at_seven H1' (.int .i64 M.ad) (.int .i64 M.kd) (.int .i64 M.qt) (.int .i64 M.x) (.int .i64 M.y) (.int .i64 M.pt) (.slice va vm vc)
      have hb0 := chain HB.out HW.out
      have hb6 := hb0.grown hg1 hb0.size (fun q e => by have := Option.some.inj e; omega)
      have hb7 := hb6.grown hg7 hb6.size (fun q e => by have := Option.some.inj e; omega)
      refine bodyPost_ret (results_cell_row rfl _ _ (w.heap.size + 1) _ _ _ _ rfl hA7 Tryz.underlying24 rfl (by kernel_rfl)) rfl ?_
      exact ⟨Q, C, _, rfl, by rw [← hs0]; exact (HC.out.keep hg1 (by omega)).keep hg7 (by omega), hb7⟩
end
end Bl
end Go.Proofs.YtbmglemjfodfhaaGreat

namespace Go.Proofs.YtbmglemjfodfhaaGreat
open Go.RowKit
namespace Bl
open Bk Fr Pt Kd Bu

/-- both pictures, as they lie. -/
structure Made (w w' : World) (m : Int) (gi N N' : Nat) (F : Nat → Int) (fa : Option Addr) (NF fc : Nat) (F2 : Nat → Int) : Prop where
  n : (N : Int) = zV m
  n' : 0 < N' ∧ N' ≤ N
  nb : N ≤ 152064 ∧ NF ≤ 152064
  lo : w.heap.size ≤ gi
  a : Arr w' .u8 gi N F
  s : Sl .u8 w' (.slice fa NF fc) NF F2
  bd : ∀ i, 0 ≤ F2 i ∧ F2 i ≤ 255
  ne : ∀ x, fa = some x → x.block ≠ gi
  bel : Below w.heap.size w w'
section
set_option maxRecDepth 100000
set_option maxHeartbeats 4000000
set_option linter.unusedVariables false
theorem made_any (A B L Mr : Int) (no : Bool) (fo : Int) (w : World) :
    Calls Tryz.prog 19 #[.agg #[.int .i64 A, .int .i64 B, .int .i64 L, .int .i64 Mr, .bool no], .int .i64 fo] w fun e w' => ∃ gi N N' F fa NF fc F2, e = .returned (.tuple #[.slice (some ⟨gi, 0, none⟩) N' N, .slice fa NF fc]) ∧ Made w w' (fo % 2) gi N N' F fa NF fc F2 := by
  obtain ⟨m, hm⟩ : ∃ m, fo % 2 = m := ⟨_, rfl⟩
  have hm01 : m = 0 ∨ m = 1 := by omega
  obtain ⟨N, hN⟩ : ∃ N : Nat, (N : Int) = zV m := ⟨(zV m).toNat, by rcases hm01 with rfl | rfl <;> rfl⟩
  have Nb : 38016 ≤ N ∧ N ≤ 152064 := by rcases hm01 with rfl | rfl <;> (have : (N : Int) = _ := hN; simp [zV] at this; omega)
  obtain ⟨q1, hq1⟩ : ∃ q1, L % 51 = q1 := ⟨_, rfl⟩
  obtain ⟨q2, hq2⟩ : ∃ q2, Mr % 51 = q2 := ⟨_, rfl⟩
  have b1 : 0 ≤ q1 ∧ q1 ≤ 50 := by omega
  have b2 : 0 ≤ q2 ∧ q2 ≤ 50 := by omega
  obtain ⟨N', hN'⟩ : ∃ N' : Nat, (N : Int) - q1 = (N' : Int) := ⟨((N : Int) - q1).toNat, by omega⟩
  obtain ⟨M', hM'⟩ : ∃ M' : Nat, (N : Int) - q2 = (M' : Int) := ⟨((N : Int) - q2).toNat, by omega⟩
  have bN' : 0 < N' ∧ N' ≤ N := by omega
  have bM' : 0 < M' ∧ M' ≤ N := by omega
  have P1 : Hid (∀ V : World, Calls Tryz.prog 31 #[.int .i64 L, .int .i64 51] V fun e w' => e = .returned (.int .i64 q1) ∧ Below V.heap.size V w') := Lib.hid (fun V => (Pick_any L 51 V (by omega) (by omega)).mono (by rintro e w' ⟨rfl, rfl⟩; rw [hq1]; exact ⟨rfl, Below.refl _ _⟩))
  have P2 : Hid (∀ V : World, Calls Tryz.prog 31 #[.int .i64 Mr, .int .i64 51] V fun e w' => e = .returned (.int .i64 q2) ∧ Below V.heap.size V w') := Lib.hid (fun V => (Pick_any Mr 51 V (by omega) (by omega)).mono (by rintro e w' ⟨rfl, rfl⟩; rw [hq2]; exact ⟨rfl, Below.refl _ _⟩))
  have HM := Lib.hid hm
  have H01 := Lib.hid hm01
  have HN := Lib.hid hN
  have HNb := Lib.hid Nb
  have HB12 := Lib.hid (And.intro bN' bM')
  rw [hm]
  have mx1 : ∀ w', (Builtin.max_ #[3, 3] 3 #[.int .i64 0, .int .i64 ((N : Int) - q1)]).run Tryz.prog w' = .ok (.int .i64 (N' : Int)) w' := fun w' => by rw [Lib.run_max_ints, hN', show max 0 (N' : Int) = (N' : Int) by omega]
  have mx2 : ∀ w', (Builtin.max_ #[3, 3] 3 #[.int .i64 0, .int .i64 ((N : Int) - q2)]).run Tryz.prog w' = .ok (.int .i64 (M' : Int)) w' := fun w' => by rw [Lib.run_max_ints, hM', show max 0 (M' : Int) = (M' : Int) by omega]
  have e1 : IntKind.i64.wrap ((N : Int) - q1) = (N : Int) - q1 := IntWalk.i64_in _ (by omega)
  have e2 : IntKind.i64.wrap ((N : Int) - q2) = (N : Int) - q2 := IntWalk.i64_in _ (by omega)
  clear hm hm01 hN hq1 hq2 hN' hM' bN' bM' Nb
  have HB := Lib.hid (((Below.refl w.heap.size w).alloc (Nat.le_refl _) (.cells #[.int .i64 A, .int .i64 B, .int .i64 L, .int .i64 Mr, .bool no] 42)).drew)
  have HP : Hid (At (w.alloc (.cells #[.int .i64 A, .int .i64 B, .int .i64 L, .int .i64 Mr, .bool no] 42)).drew w.heap.size #[.int .i64 A, .int .i64 B, .int .i64 L, .int .i64 Mr, .bool no] 42) := Lib.hid ((At.new w _ _).below (Below.refl _ _).drew)
  have s0 := HP.out.cell 0 _ rfl
  have s1 := HP.out.cell 1 _ rfl
  go_enter Tryz.func19, Tryz.ntmps19
  go_upto_region 2 with (go_at_call 31; refine (Pick_any fo 2 _ (by omega) (by omega)).mono ?_; rintro e w1 ⟨rfl, rfl⟩; rw [HM.out])
  go_cut [6, 7] (fun u v wx => ∃ (gi gf : Nat) (f0 F2 : Nat → Int), u = .slice (some ⟨gi, 0, none⟩) N N ∧ v = .slice (some ⟨gf, 0, none⟩) N N ∧ w.heap.size < gi ∧ w.heap.size < gf ∧ gi ≠ gf ∧ gi < wx.heap.size ∧ gf < wx.heap.size ∧ Arr wx .u8 gi N f0 ∧ Arr wx .u8 gf N F2 ∧ (∀ i, 0 ≤ F2 i ∧ F2 i ≤ 255) ∧ At wx w.heap.size #[.int .i64 A, .int .i64 B, .int .i64 L, .int .i64 Mr, .bool no] 42 ∧ Below w.heap.size w wx)
  case first =>
    go_region_with (first
      | (go_at_call_of 13 A; refine (Mo.SceneB_any m A 1 N H01.out HN.out _).mono ?_; rintro e V1 ⟨gi, f0, rfl, i1, i2, hA, _, h4⟩; have l1 := Nat.lt_of_lt_of_le HP.out.lt i1; (try have ne : gi ≠ gf := by omega); (try have j4 := Nat.lt_of_lt_of_le i4 h4.size); (try have HF := Lib.hid (HF.out.below h4 i4)); have HI2 := Lib.hid hA; have HP := Lib.hid (HP.out.below h4); have HB := Lib.hid (chain HB.out h4); have s0 := HP.out.cell 0 _ rfl; have s1 := HP.out.cell 1 _ rfl; clear hA h4)
      | (go_at_call_of 13 B; refine (Mo.SceneB_any m B 2 N H01.out HN.out _).mono ?_; rintro e V2 ⟨gf, F2, rfl, i3, i4, hA, fbd, h5⟩; have l2 := Nat.lt_of_lt_of_le HP.out.lt i3; (try have ne : gi ≠ gf := by omega); (try have j2 := Nat.lt_of_lt_of_le i2 h5.size); (try have HI2 := Lib.hid (HI2.out.below h5 i2)); have HF := Lib.hid hA; have HFB := Lib.hid fbd; have HP := Lib.hid (HP.out.below h5); have HB := Lib.hid (chain HB.out h5); have s0 := HP.out.cell 0 _ rfl; have s1 := HP.out.cell 1 _ rfl; clear hA h5 fbd))
    all_goals (go_wp2_with fail; go_meet; exact ⟨_, _, _, _, rfl, rfl, l1, l2, ne, by first | exact j2 | exact i2, by first | exact j4 | exact i4, HI2.out, HF.out, HFB.out, HP.out, HB.out⟩)
  case rest =>
  obtain ⟨gi, gf, f0, F2, rfl, rfl, l1, l2, ne, l3, l4, hI, hF, hfb, hP, hB⟩ := hcut
  have HI := Lib.hid hI
  have HF := Lib.hid hF
  have HFB := Lib.hid hfb
  have HP2 := Lib.hid hP
  have HB2 := Lib.hid hB
  clear hI hF hfb hP hB s0 s1 HP HB
  have sl1 := fun w' => slice_to gi N N N' HB12.out.1.2 w'
  have sl2 := fun w' => slice_to gf N N M' HB12.out.2.2 w'
  have c2 : wc.cell? ⟨w.heap.size, 2, none⟩ = some (.int .i64 L) := HP2.out.cell 2 _ rfl
  have c3 : wc.cell? ⟨w.heap.size, 3, none⟩ = some (.int .i64 Mr) := HP2.out.cell 3 _ rfl
  go_upto_region 3 with fail
  have q2 := Past.cell c2
  have q3 := Past.cell c3
  clear c2 c3
  refine wp_region_past (by kernel_rfl) (by kernel_rfl) ?_
  repeat (go_big_quiet_step (first | (go_at_call_of 31 L; exact past_call (P1.out _)) | (go_at_call_of 31 Mr; exact past_call (P2.out _))))
  refine wpQuiet_nil ?_
  rintro _ ⟨⟨w4, h4⟩, rfl⟩
  have HI := Lib.hid (HI.out.below h4 l3)
  have HF := Lib.hid (HF.out.below h4 l4)
  have HP := Lib.hid (HP2.out.below h4)
  have HB := Lib.hid (chain HB2.out h4)
  have z4 := h4.size
  clear h4 q2 q3 sl1 sl2 mx1 mx2 e1 e2 P1 P2 HP2 HB2
  have p4 := HP.out.cell 4 _ rfl
  cases no with
  | true =>
    go_wp2_with fail
    go_ret2
    exact ⟨gi, N, N', f0, none, 0, 0, F2, rfl, HN.out, HB12.out.1, ⟨HNb.out.2, by omega⟩, by omega, HI.out, ⟨none, 0, rfl, Nat.le_refl _, Nat.zero_le _, .inl ⟨rfl, fun _ => rfl⟩⟩, HFB.out, (fun _ h => by cases h), HB.out⟩
  | false =>
    go_wp2_with fail
    go_ret2
    exact ⟨gi, N, N', f0, some ⟨gf, 0, none⟩, M', N, F2, rfl, HN.out, HB12.out.1, ⟨HNb.out.2, by have h1 := HNb.out.2; have h2 := HB12.out.2.2; omega⟩, by omega, HI.out, ⟨_, N, rfl, HB12.out.2.2, by have h1 := HNb.out.2; unfold maxLen; omega, .inr ⟨gf, 0, rfl, by omega, fun i hi => HF.out.ints i (by have h2 := HB12.out.2.2; omega)⟩⟩, HFB.out, (fun x h => by cases h; exact fun e => ne e.symm), HB.out⟩
end
end Bl
end Go.Proofs.YtbmglemjfodfhaaGreat

namespace Go.Proofs.YtbmglemjfodfhaaGreat
open Go.RowKit
namespace Bl
open Bk Fr Pt Kd Bu Pa

theorem layS_lent (n g a : Int) (S : Nat → Nat → Int) (f : Nat → Int) (N : Nat) (hc : cE n g a = 0) (hN : (N : Int) = zV n) : ∀ k, k ≤ 6 → layS n g a S (lentF N f) k = lentF N (layS n g a S f k)
  | 0, _ => rfl
  | k + 1, hk => by
    have ih := layS_lent n g a S f N hc hN k (by omega)
    have fit := Pa.place_fit n g a ((k : Int) + 1) hc (by omega)
    show Pa.layN _ _ (S k) (layS n g a S (lentF N f) k) 64 = lentF N (Pa.layN _ _ (S k) (layS n g a S f k) 64)
    rw [ih]
    exact Pa.lay_lent _ _ N (S k) _ (by omega) 64 (by omega)
theorem macF_lent (M : MB) (n g a : Int) (N NF : Nat) (q : Int) (F f : Nat → Int) : macF M n g a N NF q F (lentF N f) = lentF N (macF M n g a N NF q F f) := by
  unfold macF
  by_cases h : macE M n g a N NF q = 0
  · rw [if_pos h, if_pos h]
    have hc : cE n g a = 0 := by
      by_cases hc : cE n g a = 0
      · exact hc
      · unfold macE at h; rw [if_pos hc] at h; exact absurd h hc
    have hN : (N : Int) = zV n := by
      by_cases hN : (N : Int) = zV n
      · exact hN
      · unfold macE at h; rw [if_neg (by omega), if_pos hN] at h; exact absurd h (by decide)
    exact layS_lent n g a _ f N hc hN 6 (by omega)
  · rw [if_neg h, if_neg h]
/-- all that lay in W1 lies there still, but what block gi holds. -/
structure Off (gi : Nat) (W1 w : World) : Prop where
  sz : W1.heap.size ≤ w.heap.size
  cell : ∀ b o, b < W1.heap.size → b ≠ gi → w.cell? ⟨b, o, none⟩ = W1.cell? ⟨b, o, none⟩
theorem Off.below {gi : Nat} {W1 w w' : World} (h : Off gi W1 w) (hb : Below w.heap.size w w') : Off gi W1 w' :=
  ⟨Nat.le_trans h.sz hb.size, fun b o h1 h2 => (hb.cell (p := ⟨b, o, none⟩) (Nat.lt_of_lt_of_le h1 h.sz)).trans (h.cell b o h1 h2)⟩
theorem Off.row {gi x : Nat} {W1 w w' : World} (h : Off gi W1 w) (hg : w.grownBy w' (some x)) (hx : x = gi ∨ W1.heap.size ≤ x) : Off gi W1 w' := by
  refine ⟨Nat.le_trans h.sz hg.size, fun b o h1 h2 => ?_⟩
  rw [← h.cell b o h1 h2]
  have hne : some b ≠ some x := fun e => by
    have := Option.some.inj e
    rcases hx with hx | hx
    · exact h2 (by omega)
    · omega
  have hbk := hg.block b (Nat.lt_of_lt_of_le h1 h.sz) hne
  simp [World.cell?, hbk]
theorem Pl.off {gi : Nat} {W1 w : World} {v : Value} {n : Nat} {r l : Nat → Int} (h : RPl (gi + 1) W1 v n r l) (ho : Off gi W1 w) : Pl w v n r l := by
  rcases h with ⟨rfl, rfl⟩ | ⟨g, c, rfl, h1, h2, h3, h4, h5⟩
  · exact ⟨none, 0, rfl, Nat.le_refl _, Nat.zero_le _, .inl ⟨rfl, fun _ => rfl⟩⟩
  · refine ⟨_, c, rfl, h3, h4, .inr ⟨g, 0, rfl, Nat.lt_of_lt_of_le h2 ho.sz, fun i hi => ?_⟩⟩
    obtain ⟨e1, e2⟩ := h5 i hi
    exact ⟨(ho.cell _ _ h2 (by omega)).trans e1, (ho.cell _ _ h2 (by omega)).trans e2⟩
/-- a macroblock whose lists lie from B on. -/
def MB.hi (M : MB) (B : Nat) (w : World) (v : Value) : Prop := ∃ a c, v = .slice a M.m c ∧ M.m ≤ c ∧ c ≤ maxLen ∧ (M.m = 0 ∨ ∃ b, a = some ⟨b, 0, none⟩ ∧ B ≤ b ∧ b < w.heap.size ∧ ∀ j, j < M.m → w.cell? ⟨b, j * 2, none⟩ = some (.int .i64 (M.dc j)) ∧ w.cell? ⟨b, j * 2 + 1, none⟩ = some (.slice (M.q j) (M.nn j) (M.cc j)) ∧ RPl B w (.slice (M.q j) (M.nn j) (M.cc j)) (M.nn j) (M.r j) (M.l j) ∧ M.nn j ≤ 1000)
theorem Cop.hi {w : World} {B : Nat} {M : MB} {v : Value} {Q : Nat → Option Addr} {C : Nat → Nat} (h : Cop w B M v M.m Q C) (hn : ∀ j, j < M.m → M.nn j ≤ 1000) : MB.hi (M.cp Q C) B w v := by
  have hc := fun g => World.ownsRow.cells h.own (g := g)
  rcases h.own.2 with ⟨rfl, h0⟩ | ⟨g, cap, cur, rfl, hb, hg, h1, h2, h3, h4⟩
  · have h0 : M.m = 0 := by simpa [bcs_len] using h0
    refine ⟨none, 0, ?_, ?_, Nat.zero_le _, .inl h0⟩
    · show Value.slice none 0 0 = Value.slice none M.m 0
      rw [h0]
    · show M.m ≤ 0
      omega
  · refine ⟨some ⟨g, 0, none⟩, cap, rfl, h1, h2, .inr ⟨g, rfl, hb, (Array.getElem?_eq_some_iff.1 hg).1, fun i hi => ?_⟩⟩
    obtain ⟨p1, p2⟩ := bcs_get M.dc Q M.nn C M.m i hi
    have a1 := hc g rfl _ _ p1
    have a2 := hc g rfl _ _ p2
    have ad : ∀ j, (⟨g, 0, none⟩ : Addr).add j = ⟨g, j, none⟩ := fun j => by unfold Addr.add; split <;> simp_all
    rw [ad] at a1 a2
    exact ⟨a1, a2, RPl.of_own (h.row i hi), hn i hi⟩
theorem MB.hi.off {M : MB} {gi : Nat} {W1 w : World} {v : Value} (h : MB.hi M (gi + 1) W1 v) (ho : Off gi W1 w) : M.at w v := by
  obtain ⟨a, c, rfl, h1, h2, h3⟩ := h
  refine ⟨a, c, rfl, h1, h2, ?_⟩
  rcases h3 with h3 | ⟨b, rfl, h4, h5, h6⟩
  · exact .inl h3
  · refine .inr ⟨b, 0, rfl, fun j hj => ?_⟩
    obtain ⟨e1, e2, e3, e4⟩ := h6 j hj
    rw [show 0 + j * 2 = j * 2 by omega]
    exact ⟨(ho.cell _ _ h5 (by omega)).trans e1, (ho.cell _ _ h5 (by omega)).trans e2, Pl.off e3 ho, e4⟩
theorem MB.hi.mono {M : MB} {B B' : Nat} {w : World} {v : Value} (h : MB.hi M B w v) (hb : B' ≤ B) : MB.hi M B' w v := by
  obtain ⟨a, c, rfl, h1, h2, h3⟩ := h
  refine ⟨a, c, rfl, h1, h2, ?_⟩
  rcases h3 with h3 | ⟨b, rfl, h4, h5, h6⟩
  · exact .inl h3
  · exact .inr ⟨b, rfl, Nat.le_trans hb h4, h5, fun j hj => ⟨(h6 j hj).1, (h6 j hj).2.1, RPl.mono hb (h6 j hj).2.2.1, (h6 j hj).2.2.2⟩⟩

theorem MB.at_nn {M : MB} {w : World} {v : Value} (h : M.at w v) (j : Nat) (hj : j < M.m) : M.nn j ≤ 1000 := by
  obtain ⟨a, c, e, _, _, h⟩ := h
  rcases h with h | ⟨b, o, _, h⟩
  · omega
  · exact (h j hj).2.2.2
structure BC where (n g a : Int) (M : MB) (vb va : Value) (Q : Nat → Option Addr) (C : Nat → Nat) (q : Int) (sp mb ib gi gL gM cL cM N N' NF fc : Nat) (fa : Option Addr) (F2 : Nat → Int) (W W1 : World)
structure BC.ok (c : BC) : Prop where
  sp : c.W.heap.size ≤ c.sp
  mb : c.W.heap.size ≤ c.mb
  gi : c.sp < c.gi ∧ c.mb < c.gi ∧ c.gi < c.W1.heap.size
  gL : c.W1.heap.size ≤ c.gL
  gM : c.gL < c.gM
  ib : c.gM < c.ib
  n1 : 0 < c.N' ∧ c.N' ≤ c.N
  n2 : c.NF ≤ 152064
  n3 : c.N ≤ 152064
  n4 : (c.N' : Int) = zV c.n → c.N = c.N'
  cL : c.N' + 4 ≤ c.cL ∧ c.cL ≤ maxLen
  cM : c.NF + 4 ≤ c.cM ∧ c.cM ≤ maxLen
  m : c.M.at c.W c.vb
  i : MB.hi (c.M.cp c.Q c.C) (c.gi + 1) c.W1 c.va
  f : Sl .u8 c.W1 (.slice c.fa c.NF c.fc) c.NF c.F2
  fn : ∀ x, c.fa = some x → x.block ≠ c.gi
  bd : ∀ i, 0 ≤ c.F2 i ∧ c.F2 i ≤ 255
abbrev BC.sv (c : BC) : Value := .agg #[.int .i64 c.n, .int .i64 c.g, .int .i64 c.a]
structure BS (c : BC) (w : World) (fm ft : Nat → Int) : Prop where
  spot : At w c.sp #[.int .i64 c.n, .int .i64 c.g, .int .i64 c.a] 28
  mac : At w c.mb #[.int .i64 c.M.ad, .int .i64 c.M.kd, .int .i64 c.M.qt, .int .i64 c.M.x, .int .i64 c.M.y, .int .i64 c.M.pt, c.vb] 24
  inn : At w c.ib #[.int .i64 c.M.ad, .int .i64 c.M.kd, .int .i64 c.M.qt, .int .i64 c.M.x, .int .i64 c.M.y, .int .i64 c.M.pt, c.va] 24
  mine : Arr w .u8 c.gL (c.N' + 4) fm
  tgt : Arr w .u8 c.gi c.N ft
  other : Arr w .u8 c.gM (c.NF + 4) (lentF c.NF c.F2)
  off : Off c.gi c.W1 w
  bel : Below c.W.heap.size c.W w
section
variable {c : BC} {w : World} {fm ft : Nat → Int}
theorem BS.m (h : BS c w fm ft) (ok : c.ok) : c.M.at w c.vb := ok.m.below h.bel
theorem BS.i (h : BS c w fm ft) (ok : c.ok) : (c.M.cp c.Q c.C).at w c.va := ok.i.off h.off
theorem BS.f (h : BS c w fm ft) (ok : c.ok) : Sl .u8 w (.slice c.fa c.NF c.fc) c.NF c.F2 := by
  obtain ⟨a, d, e, h1, h2, h3⟩ := ok.f
  cases e
  refine ⟨_, _, rfl, h1, h2, ?_⟩
  rcases h3 with h3 | ⟨b, o, e, h4, h5⟩
  · exact .inl h3
  · have hne : b ≠ c.gi := ok.fn _ e
    exact .inr ⟨b, o, e, Nat.lt_of_lt_of_le h4 h.off.sz, fun i hi => (h.off.cell _ _ h4 hne).trans (h5 i hi)⟩
theorem BS.below {w' : World} (h : BS c w fm ft) (ok : c.ok) (hb : Below w.heap.size w w') : BS c w' fm ft where
  spot := h.spot.below hb
  mac := h.mac.below hb
  inn := h.inn.below hb
  mine := h.mine.below hb (h.mine.lt (by omega))
  tgt := h.tgt.below hb (h.tgt.lt (by have := ok.n1; omega))
  other := h.other.below hb (h.other.lt (by omega))
  off := h.off.below hb
  bel := chain h.bel hb
theorem BS.toMine {w' : World} {f' : Nat → Int} (h : BS c w fm ft) (ok : c.ok) (hA : Arr w' .u8 c.gL (c.N' + 4) f') (hg : w.grownBy w' (some c.gL)) : BS c w' f' ft := by
  have k1 := ok.sp; have k2 := ok.mb; have k3 := ok.gi; have k4 := ok.gL; have k5 := ok.gM; have k6 := ok.ib
  exact {
    spot := h.spot.kept hg (fun e => by have := Option.some.inj e; omega)
    mac := h.mac.kept hg (fun e => by have := Option.some.inj e; omega)
    inn := h.inn.kept hg (fun e => by have := Option.some.inj e; omega)
    mine := hA
    tgt := h.tgt.grown hg (fun e => by have := Option.some.inj e; omega)
    other := h.other.grown hg (fun e => by have := Option.some.inj e; omega)
    off := h.off.row hg (.inr k4)
    bel := h.bel.grown hg h.bel.size (fun b e => by have := Option.some.inj e; omega) }
theorem BS.toTo {w' : World} {f' : Nat → Int} (h : BS c w fm ft) (ok : c.ok) (hA : Arr w' .u8 c.gi c.N f') (hg : w.grownBy w' (some c.gi)) : BS c w' fm f' := by
  have k1 := ok.sp; have k2 := ok.mb; have k3 := ok.gi; have k4 := ok.gL; have k5 := ok.gM; have k6 := ok.ib
  exact {
    spot := h.spot.kept hg (fun e => by have := Option.some.inj e; omega)
    mac := h.mac.kept hg (fun e => by have := Option.some.inj e; omega)
    inn := h.inn.kept hg (fun e => by have := Option.some.inj e; omega)
    mine := h.mine.grown hg (fun e => by have := Option.some.inj e; omega)
    tgt := hA
    other := h.other.grown hg (fun e => by have := Option.some.inj e; omega)
    off := h.off.row hg (.inl rfl)
    bel := h.bel.grown hg h.bel.size (fun b e => by have := Option.some.inj e; omega) }
theorem cp_macE (M : MB) (Q : Nat → Option Addr) (C : Nat → Nat) (n g a : Int) (N NF : Nat) (q : Int) : macE (M.cp Q C) n g a N NF q = macE M n g a N NF q := rfl
theorem cp_smE (M : MB) (Q : Nat → Option Addr) (C : Nat → Nat) (n g a : Int) (N : Nat) (q : Int) : smE (M.cp Q C) n g a N q = smE M n g a N q := rfl
theorem cp_smp (M : MB) (Q : Nat → Option Addr) (C : Nat → Nat) (n g a : Int) (f : Nat → Int) (q : Int) : smp (M.cp Q C) n g a f q = smp M n g a f q := rfl
theorem cp_macF (M : MB) (Q : Nat → Option Addr) (C : Nat → Nat) (n g a : Int) (N NF : Nat) (q : Int) (F f : Nat → Int) : macF (M.cp Q C) n g a N NF q F f = macF M n g a N NF q F f := rfl
theorem BS.mac1 (h : BS c w fm ft) (ok : c.ok) : Calls Tryz.prog 16 #[.slice (some ⟨c.gL, 0, none⟩) c.N' c.cL, .slice (some ⟨c.gM, 0, none⟩) c.NF c.cM, c.sv, mv c.M c.va, .int .i64 c.q] w
    fun e w' => e = .returned (.int .i64 (macE c.M c.n c.g c.a c.N' c.NF c.q)) ∧ BS c w' (macF c.M c.n c.g c.a c.N' c.NF c.q c.F2 fm) ft := by
  have k7 := ok.cL
  have := Macro_any (c.M.cp c.Q c.C) c.va c.gL c.N' (c.N' + 4) c.cL (some ⟨c.gM, 0, none⟩) c.NF c.cM fm c.F2 c.n c.g c.a c.q w h.mine (by omega) (by omega) (by omega) (Pa.lent_sl h.other ok.cM.1 ok.cM.2) ok.bd (h.i ok)
  rw [cp_macE, cp_macF] at this
  refine this.mono ?_
  rintro e w' ⟨rfl, h1, h2⟩
  exact ⟨rfl, h.toMine ok h1 h2⟩
theorem BS.mac2 (h : BS c w fm ft) (ok : c.ok) : Calls Tryz.prog 24 #[.slice (some ⟨c.gi, 0, none⟩) c.N' c.N, .slice c.fa c.NF c.fc, c.sv, mv c.M c.vb, .int .i64 c.q] w
    fun e w' => e = .returned (.int .i64 (macE c.M c.n c.g c.a c.N' c.NF c.q)) ∧ BS c w' fm (macF c.M c.n c.g c.a c.N' c.NF c.q c.F2 ft) := by
  have k3 := ok.n1
  refine (rMacro_any c.M c.vb c.gi c.N' c.N c.N c.fa c.NF c.fc ft c.F2 c.n c.g c.a c.q w h.tgt (by omega) (by omega) ok.n4 (h.f ok) ok.bd (h.m ok)).mono ?_
  rintro e w' ⟨rfl, h1, h2⟩
  exact ⟨rfl, h.toTo ok h1 h2⟩
theorem BS.skip1 (h : BS c w fm ft) (ok : c.ok) : Calls Tryz.prog 26 #[.slice (some ⟨c.gL, 0, none⟩) c.N' c.cL, .slice (some ⟨c.gM, 0, none⟩) c.NF c.cM, c.sv] w
    fun e w' => e = .returned (.int .i64 (Pa.copE c.n c.g c.a c.N' (aN c.NF c.n))) ∧ BS c w' (Pa.copG c.n c.g c.a c.N' (aN c.NF c.n) (aF c.NF c.F2) fm) ft := by
  have k5 := ok.gM; have k7 := ok.cL
  refine (Skip_any c.gL c.N' (c.N' + 4) c.cL (some ⟨c.gM, 0, none⟩) c.NF c.cM fm c.F2 c.n c.g c.a w h.mine (by omega) (by omega) (by omega) (Pa.lent_sl h.other ok.cM.1 ok.cM.2) (fun _ x e => by cases e; show c.gM ≠ c.gL; omega)).mono ?_
  rintro e w' ⟨rfl, h1, h2⟩
  exact ⟨rfl, h.toMine ok h1 h2⟩
theorem BS.skip2 (h : BS c w fm ft) (ok : c.ok) : Calls Tryz.prog 27 #[.slice (some ⟨c.gi, 0, none⟩) c.N' c.N, .slice c.fa c.NF c.fc, c.sv] w
    fun e w' => e = .returned (.int .i64 (Pa.copE c.n c.g c.a c.N' (aN c.NF c.n))) ∧ BS c w' fm (Pa.copG c.n c.g c.a c.N' (aN c.NF c.n) (aF c.NF c.F2) ft) := by
  have k3 := ok.n1
  refine (rSkip_any c.gi c.N' c.N c.N c.fa c.NF c.fc ft c.F2 c.n c.g c.a w h.tgt (by omega) ok.n4 (h.f ok) (fun _ => ok.fn)).mono ?_
  rintro e w' ⟨rfl, h1, h2⟩
  exact ⟨rfl, h.toTo ok h1 h2⟩
theorem BS.keptMine {f : Nat → Int} (h : BS c w (lentF c.N' f) f) (ok : c.ok) : Calls Tryz.prog 25 #[.slice (some ⟨c.gL, 0, none⟩) c.N' c.cL, .slice (some ⟨c.gi, 0, none⟩) c.N' c.N] w
    fun e w' => e = .returned (.bool true) ∧ BS c w' (lentF c.N' f) f := by
  have k3 := ok.n1; have k5 := ok.n3
  refine (KeptBytes_row c.gL c.cL c.N' _ c.N f w (by omega) ok.cL.1 ok.cL.2 h.mine (Pa.part_sl h.tgt (by omega) k3.2 (by unfold maxLen; omega))).mono ?_
  rintro e w' ⟨rfl, h1⟩
  exact ⟨rfl, h.below ok h1⟩
theorem BS.keptOther (h : BS c w fm ft) (ok : c.ok) : Calls Tryz.prog 25 #[.slice (some ⟨c.gM, 0, none⟩) c.NF c.cM, .slice c.fa c.NF c.fc] w
    fun e w' => e = .returned (.bool true) ∧ BS c w' fm ft := by
  have k4 := ok.n2
  refine (KeptBytes_row c.gM c.cM c.NF _ c.fc c.F2 w (by omega) ok.cM.1 ok.cM.2 h.other (h.f ok)).mono ?_
  rintro e w' ⟨rfl, h1⟩
  exact ⟨rfl, h.below ok h1⟩
theorem BS.same (h : BS c w fm ft) (ok : c.ok) : Calls Tryz.prog 28 #[mv c.M c.va, mv c.M c.vb] w
    fun e w' => e = .returned (.bool true) ∧ BS c w' fm ft := by
  refine (SameMacro_true c.M c.Q c.C c.va c.vb w (h.i ok) (h.m ok)).mono ?_
  rintro e w' ⟨rfl, h1⟩
  exact ⟨rfl, h.below ok h1⟩
theorem BS.smp1 (h : BS c w fm ft) (ok : c.ok) : Calls Tryz.prog 15 #[.slice (some ⟨c.gM, 0, none⟩) c.NF c.cM, c.sv, mv c.M c.va, .int .i64 c.q] w
    (rsmpPost c.M c.n c.g c.a c.NF c.F2 c.q w) :=
  Samples_any (c.M.cp c.Q c.C) c.va (some ⟨c.gM, 0, none⟩) c.NF c.cM c.F2 c.n c.g c.a c.q w (Pa.lent_sl h.other ok.cM.1 ok.cM.2) ok.bd (h.i ok)
theorem BS.smp2 (h : BS c w fm ft) (ok : c.ok) : Calls Tryz.prog 22 #[.slice c.fa c.NF c.fc, c.sv, mv c.M c.vb, .int .i64 c.q] w
    (rsmpPost c.M c.n c.g c.a c.NF c.F2 c.q w) :=
  rSamples_any c.M c.vb c.fa c.NF c.fc c.F2 c.n c.g c.a c.q w (h.f ok) ok.bd (h.m ok)
theorem BS.cells (h : BS c w fm ft) : w.cell? ⟨c.sp, 0, none⟩ = some (.int .i64 c.n) ∧ w.cell? ⟨c.sp, 1, none⟩ = some (.int .i64 c.g) ∧ w.cell? ⟨c.sp, 2, none⟩ = some (.int .i64 c.a) ∧ w.cell? ⟨c.mb, 0, none⟩ = some (.int .i64 c.M.ad) ∧ w.cell? ⟨c.mb, 1, none⟩ = some (.int .i64 c.M.kd) ∧ w.cell? ⟨c.mb, 2, none⟩ = some (.int .i64 c.M.qt) ∧ w.cell? ⟨c.mb, 3, none⟩ = some (.int .i64 c.M.x) ∧ w.cell? ⟨c.mb, 4, none⟩ = some (.int .i64 c.M.y) ∧ w.cell? ⟨c.mb, 5, none⟩ = some (.int .i64 c.M.pt) ∧ w.cell? ⟨c.mb, 6, none⟩ = some c.vb ∧ w.cell? ⟨c.ib, 0, none⟩ = some (.int .i64 c.M.ad) ∧ w.cell? ⟨c.ib, 1, none⟩ = some (.int .i64 c.M.kd) ∧ w.cell? ⟨c.ib, 2, none⟩ = some (.int .i64 c.M.qt) ∧ w.cell? ⟨c.ib, 3, none⟩ = some (.int .i64 c.M.x) ∧ w.cell? ⟨c.ib, 4, none⟩ = some (.int .i64 c.M.y) ∧ w.cell? ⟨c.ib, 5, none⟩ = some (.int .i64 c.M.pt) ∧ w.cell? ⟨c.ib, 6, none⟩ = some c.va :=
  ⟨h.spot.cell 0 _ rfl, h.spot.cell 1 _ rfl, h.spot.cell 2 _ rfl, h.mac.cell 0 _ rfl, h.mac.cell 1 _ rfl, h.mac.cell 2 _ rfl, h.mac.cell 3 _ rfl, h.mac.cell 4 _ rfl, h.mac.cell 5 _ rfl, h.mac.cell 6 _ rfl, h.inn.cell 0 _ rfl, h.inn.cell 1 _ rfl, h.inn.cell 2 _ rfl, h.inn.cell 3 _ rfl, h.inn.cell 4 _ rfl, h.inn.cell 5 _ rfl, h.inn.cell 6 _ rfl⟩
end
/-- the states between the calls that write. -/
theorem bs_pack (c : BC) (F : Nat → Int) (V0 : World) (ok : c.ok) (h : BS c V0 (lentF c.N' F) F) :
    ∃ (St : Nat → World → Prop) (E1 E2 : Int), St 0 V0
      ∧ (∀ V, St 0 V → Calls Tryz.prog 16 #[.slice (some ⟨c.gL, 0, none⟩) c.N' c.cL, .slice (some ⟨c.gM, 0, none⟩) c.NF c.cM, c.sv, mv c.M c.va, .int .i64 c.q] V fun e w' => e = .returned (.int .i64 E1) ∧ St 1 w')
      ∧ (∀ V, St 1 V → Calls Tryz.prog 24 #[.slice (some ⟨c.gi, 0, none⟩) c.N' c.N, .slice c.fa c.NF c.fc, c.sv, mv c.M c.vb, .int .i64 c.q] V fun e w' => e = .returned (.int .i64 E1) ∧ St 2 w')
      ∧ (∀ V, St 2 V → Calls Tryz.prog 25 #[.slice (some ⟨c.gL, 0, none⟩) c.N' c.cL, .slice (some ⟨c.gi, 0, none⟩) c.N' c.N] V fun e w' => e = .returned (.bool true) ∧ St 3 w')
      ∧ (∀ V, St 3 V → Calls Tryz.prog 26 #[.slice (some ⟨c.gL, 0, none⟩) c.N' c.cL, .slice (some ⟨c.gM, 0, none⟩) c.NF c.cM, c.sv] V fun e w' => e = .returned (.int .i64 E2) ∧ St 4 w')
      ∧ (∀ V, St 4 V → Calls Tryz.prog 27 #[.slice (some ⟨c.gi, 0, none⟩) c.N' c.N, .slice c.fa c.NF c.fc, c.sv] V fun e w' => e = .returned (.int .i64 E2) ∧ St 5 w')
      ∧ (∀ V, St 5 V → Calls Tryz.prog 25 #[.slice (some ⟨c.gL, 0, none⟩) c.N' c.cL, .slice (some ⟨c.gi, 0, none⟩) c.N' c.N] V fun e w' => e = .returned (.bool true) ∧ St 6 w')
      ∧ (∀ i V, St i V → ∃ fm ft, BS c V fm ft)
      ∧ (∀ i V V', St i V → Below V.heap.size V V' → St i V') := by
  obtain ⟨G, hG⟩ : ∃ G, macF c.M c.n c.g c.a c.N' c.NF c.q c.F2 F = G := ⟨_, rfl⟩
  obtain ⟨H, hH⟩ : ∃ H, Pa.copG c.n c.g c.a c.N' (aN c.NF c.n) (aF c.NF c.F2) G = H := ⟨_, rfl⟩
  have g1 : macF c.M c.n c.g c.a c.N' c.NF c.q c.F2 (lentF c.N' F) = lentF c.N' G := by rw [macF_lent, hG]
  have g2 : Pa.copG c.n c.g c.a c.N' (aN c.NF c.n) (aF c.NF c.F2) (lentF c.N' G) = lentF c.N' H := by rw [Pa.copG_lent, hH]
  let fm : Nat → Nat → Int := fun i => if i = 0 then lentF c.N' F else if i ≤ 3 then lentF c.N' G else lentF c.N' H
  let ft : Nat → Nat → Int := fun i => if i ≤ 1 then F else if i ≤ 4 then G else H
  refine ⟨fun i V => BS c V (fm i) (ft i), macE c.M c.n c.g c.a c.N' c.NF c.q, Pa.copE c.n c.g c.a c.N' (aN c.NF c.n), h, ?_, ?_, ?_, ?_, ?_, ?_, ?_, ?_⟩
  · intro V h
    refine (BS.mac1 h ok).mono ?_
    rintro e w' ⟨rfl, h2⟩
    refine ⟨rfl, ?_⟩
    show BS c _ (lentF c.N' G) F
    rw [← g1]
    exact h2
  · intro V h
    refine (BS.mac2 h ok).mono ?_
    rintro e w' ⟨rfl, h2⟩
    refine ⟨rfl, ?_⟩
    have e : BS c w' (lentF c.N' G) (macF c.M c.n c.g c.a c.N' c.NF c.q c.F2 F) := h2
    rw [hG] at e
    exact e
  · exact fun V h => BS.keptMine h ok
  · intro V h
    refine (BS.skip1 h ok).mono ?_
    rintro e w' ⟨rfl, h2⟩
    refine ⟨rfl, ?_⟩
    show BS c _ (lentF c.N' H) G
    rw [← g2]
    exact h2
  · intro V h
    refine (BS.skip2 h ok).mono ?_
    rintro e w' ⟨rfl, h2⟩
    refine ⟨rfl, ?_⟩
    have e : BS c w' (lentF c.N' H) (Pa.copG c.n c.g c.a c.N' (aN c.NF c.n) (aF c.NF c.F2) G) := h2
    rw [hH] at e
    exact e
  · exact fun V h => BS.keptMine h ok
  · exact fun i V h => ⟨_, _, h⟩
  · exact fun i V V' h hb => BS.below h ok hb
end Bl
end Go.Proofs.YtbmglemjfodfhaaGreat

namespace Go.Proofs.YtbmglemjfodfhaaGreat
open Go.RowKit
namespace Bl
open Bk Fr Pt Kd Bu

def sixN (E : Int) : Nat := if E = 0 then 6 else 0
/-- the rows that Samples tells, as they lie. -/
structure Rw (w w' : World) (K gg : Nat) (V : Nat → Nat × Nat) (S : Nat → Nat → Int) : Prop where
  base : w.heap.size ≤ gg
  cell : ∀ i, i < K → w'.cell? ⟨gg, i, none⟩ = some (.slice (some ⟨(V i).1, 0, none⟩) 64 (V i).2)
  lo : ∀ i, i < K → w.heap.size ≤ (V i).1 ∧ (V i).1 < w'.heap.size ∧ (V i).1 ≠ gg
  cap : ∀ i, i < K → 64 ≤ (V i).2 ∧ (V i).2 ≤ maxLen
  arr : ∀ i, i < K → Arr w' .u8 (V i).1 64 (S i)
  asc : ∀ i, i < K → ∀ j, j < i → (V j).1 < (V i).1
theorem rows_of {M : MB} {n g a : Int} {N : Nat} {f : Nat → Int} {q : Int} {w w' : World} {e : Ending} (h : rsmpPost M n g a N f q w e w') :
    ∃ qa ca gg V, e = .returned (.tuple #[.slice qa (sixN (smE M n g a N q)) ca, .int .i64 (smE M n g a N q)]) ∧ sixN (smE M n g a N q) ≤ ca ∧ (0 < sixN (smE M n g a N q) → qa = some ⟨gg, 0, none⟩) ∧ Rw w w' (sixN (smE M n g a N q)) gg V (smp M n g a (aF N f) q) ∧ Below w.heap.size w w' := by
  obtain ⟨v, rfl, h1, h2, hb⟩ := h
  by_cases h0 : smE M n g a N q = 0
  · obtain ⟨gg, c, V, rfl, g1, g2, g3, g4, g5⟩ := h1 h0
    have e6 : sixN (smE M n g a N q) = 6 := if_pos h0
    rw [e6]
    have : ∀ i, ∃ p : Nat × Nat, i < 6 → V i = .slice (some ⟨p.1, 0, none⟩) 64 p.2 ∧ w.heap.size ≤ p.1 ∧ p.1 < w'.heap.size ∧ 64 ≤ p.2 ∧ p.2 ≤ maxLen ∧ Arr w' .u8 p.1 64 (smp M n g a (aF N f) q i) := fun i => by
      by_cases hi : i < 6
      · rcases (g5 i hi).2.1 with ⟨h0, _⟩ | ⟨gi, ci, e, r1, r2, r3, r4, r5⟩
        · omega
        · exact ⟨(gi, ci), fun _ => ⟨e, r1, r2, r3, r4, r5⟩⟩
      · exact ⟨(0, 0), fun h => absurd h hi⟩
    obtain ⟨P, hP⟩ : ∃ P : Nat → Nat × Nat, ∀ i, i < 6 → V i = .slice (some ⟨(P i).1, 0, none⟩) 64 (P i).2 ∧ w.heap.size ≤ (P i).1 ∧ (P i).1 < w'.heap.size ∧ 64 ≤ (P i).2 ∧ (P i).2 ≤ maxLen ∧ Arr w' .u8 (P i).1 64 (smp M n g a (aF N f) q i) := ⟨fun i => Classical.choose (this i), fun i => Classical.choose_spec (this i)⟩
    have hcell : ∀ i, i < 6 → w'.cell? ⟨gg, i, none⟩ = some (.slice (some ⟨(P i).1, 0, none⟩) 64 (P i).2) := fun i hi => by rw [(g5 i hi).1, (hP i hi).1]
    have hblk : ∀ i, i < 6 → blk (V i) = (P i).1 := fun i hi => by rw [(hP i hi).1]; rfl
    have hne : ∀ i, i < 6 → (P i).1 ≠ gg := fun i hi e => by
      have a1 := ((hP i hi).2.2.2.2.2 0 (by omega)).1
      have a2 := hcell 0 (by omega)
      rw [e, a2] at a1
      cases a1
    refine ⟨_, c, gg, P, rfl, g3, fun _ => rfl, ⟨g1, hcell, fun i hi => ⟨(hP i hi).2.1, (hP i hi).2.2.1, hne i hi⟩, fun i hi => ⟨(hP i hi).2.2.2.1, (hP i hi).2.2.2.2.1⟩, fun i hi => (hP i hi).2.2.2.2.2, fun i hi j hj => ?_⟩, hb⟩
    have := (g5 i hi).2.2 j hj
    rwa [hblk i hi, hblk j (by omega)] at this
  · have e0 : sixN (smE M n g a N q) = 0 := if_neg h0
    obtain rfl := h2 h0
    rw [e0]
    exact ⟨none, 0, w.heap.size, fun _ => (0, 0), rfl, Nat.le_refl _, fun h => by omega, ⟨Nat.le_refl _, fun i hi => by omega, fun i hi => by omega, fun i hi => by omega, fun i hi => by omega, fun i hi => by omega⟩, hb⟩
theorem Rw.below {w w' w'' : World} {K gg : Nat} {V : Nat → Nat × Nat} {S : Nat → Nat → Int} (h : Rw w w' K gg V S) (hb : Below w'.heap.size w' w'') : Rw w w'' K gg V S :=
  ⟨h.base, fun i hi => (hb.cell (p := ⟨gg, i, none⟩) (World.block_lt_of_cell? _ _ (h.cell i hi))).trans (h.cell i hi), fun i hi => ⟨(h.lo i hi).1, Nat.lt_of_lt_of_le (h.lo i hi).2.1 hb.size, (h.lo i hi).2.2⟩, h.cap, fun i hi => (h.arr i hi).below hb (h.lo i hi).2.1, h.asc⟩
/-- the rows, in the round that compares row k. -/
def LR (K ga gb : Nat) (VA VB : Nat → Nat × Nat) (S : Nat → Nat → Int) (k : Nat) (w : World) : Prop := ∀ i, i < K → w.cell? ⟨ga, i, none⟩ = some (.slice (some ⟨(VA i).1, 0, none⟩) 64 (VA i).2) ∧ w.cell? ⟨gb, i, none⟩ = some (.slice (some ⟨(VB i).1, 0, none⟩) 64 (VB i).2) ∧ (k ≤ i → Arr w .u8 (VA i).1 64 (S i)) ∧ Arr w .u8 (VB i).1 64 (S i)
theorem LR.below {K ga gb : Nat} {VA VB : Nat → Nat × Nat} {S : Nat → Nat → Int} {k : Nat} {w w' : World} (h : LR K ga gb VA VB S k w) (hb : Below w.heap.size w w') : LR K ga gb VA VB S k w' := fun i hi => by
  obtain ⟨h1, h2, h3, h4⟩ := h i hi
  exact ⟨(hb.cell (p := ⟨ga, i, none⟩) (World.block_lt_of_cell? _ _ h1)).trans h1, (hb.cell (p := ⟨gb, i, none⟩) (World.block_lt_of_cell? _ _ h2)).trans h2, fun hk => (h3 hk).below hb ((h3 hk).lt (by omega)), h4.below hb (h4.lt (by omega))⟩
theorem LR.over {K ga gb : Nat} {VA VB : Nat → Nat × Nat} {S : Nat → Nat → Int} {k : Nat} {w w' w0 w1 w2 : World} (h : LR K ga gb VA VB S k w) (ha : Rw w0 w1 K ga VA S) (hb : Rw w1 w2 K gb VB S) (hk : k < K) (hg : w.grownBy w' (some (VA k).1)) : LR K ga gb VA VB S (k + 1) w' := fun i hi => by
  obtain ⟨h1, h2, h3, h4⟩ := h i hi
  have p1 := (ha.lo k hk)
  have p2 := hb.base
  have p3 := (hb.lo i hi).1
  exact ⟨grown_cell hg (fun e => by have := Option.some.inj e; omega) h1, grown_cell hg (fun e => by have := Option.some.inj e; omega) h2,
    fun hki => (h3 (by omega)).grown hg (fun e => by have := Option.some.inj e; have := ha.asc i hi k (by omega); omega), h4.grown hg (fun e => by have := Option.some.inj e; omega)⟩
set_option maxRecDepth 100000 in
set_option maxHeartbeats 8000000 in
set_option linter.unusedVariables false in
theorem BuildMacros_any (n g a : Int) (M : MB) (vb : Value) (qu : Int) (A B L Mr : Int) (no : Bool) (w : World) (hM0 : MB.raw M w vb) (_ : (Lit.int .i64 qu).wf = true) :
    Calls Tryz.prog 4 #[sp n g a, mv M vb, .int .i64 qu, .agg #[.int .i64 A, .int .i64 B, .int .i64 L, .int .i64 Mr, .bool no]] w fun e w' => e = .returned (.bool true) ∧ Below w.heap.size w w' := by
  have HM0 := Lib.hid hM0
  clear hM0
  have HB := Lib.hid ((((Below.refl w.heap.size w).alloc (Nat.le_refl _) (.cells #[.int .i64 n, .int .i64 g, .int .i64 a] 28)).alloc (by simp) (.cells #[.int .i64 M.ad, .int .i64 M.kd, .int .i64 M.qt, .int .i64 M.x, .int .i64 M.y, .int .i64 M.pt, vb] 24)).alloc (by simp; omega) (.cells #[.int .i64 A, .int .i64 B, .int .i64 L, .int .i64 Mr, .bool no] 42))
  have H5 : Hid (At _ _ _ _) := Lib.hid (((At.new w #[.int .i64 n, .int .i64 g, .int .i64 a] 28).below ((Below.refl _ _).alloc (Nat.le_refl _) (.cells #[.int .i64 M.ad, .int .i64 M.kd, .int .i64 M.qt, .int .i64 M.x, .int .i64 M.y, .int .i64 M.pt, vb] 24))).below ((Below.refl _ _).alloc (Nat.le_refl _) (.cells #[.int .i64 A, .int .i64 B, .int .i64 L, .int .i64 Mr, .bool no] 42)))
  have H6 : Hid (At _ _ _ _) := Lib.hid ((At.new (w.alloc (.cells #[.int .i64 n, .int .i64 g, .int .i64 a] 28)) #[.int .i64 M.ad, .int .i64 M.kd, .int .i64 M.qt, .int .i64 M.x, .int .i64 M.y, .int .i64 M.pt, vb] 24).below ((Below.refl _ _).alloc (Nat.le_refl _) (.cells #[.int .i64 A, .int .i64 B, .int .i64 L, .int .i64 Mr, .bool no] 42)))
  have H7 : Hid (At _ _ _ _) := Lib.hid (At.new ((w.alloc (.cells #[.int .i64 n, .int .i64 g, .int .i64 a] 28)).alloc (.cells #[.int .i64 M.ad, .int .i64 M.kd, .int .i64 M.qt, .int .i64 M.x, .int .i64 M.y, .int .i64 M.pt, vb] 24)) #[.int .i64 A, .int .i64 B, .int .i64 L, .int .i64 Mr, .bool no] 42)
  simp only [World.size_alloc] at H6 H7
  have zb : w.heap.size + 3 ≤ (((w.alloc (.cells #[.int .i64 n, .int .i64 g, .int .i64 a] 28)).alloc (.cells #[.int .i64 M.ad, .int .i64 M.kd, .int .i64 M.qt, .int .i64 M.x, .int .i64 M.y, .int .i64 M.pt, vb] 24)).alloc (.cells #[.int .i64 A, .int .i64 B, .int .i64 L, .int .i64 Mr, .bool no] 42)).heap.size := by simp
  have m0 := H6.out.cell 0 _ rfl
  have m1 := H6.out.cell 1 _ rfl
  have m2 := H6.out.cell 2 _ rfl
  have m3 := H6.out.cell 3 _ rfl
  have m4 := H6.out.cell 4 _ rfl
  have m5 := H6.out.cell 5 _ rfl
  have m6 := H6.out.cell 6 _ rfl
  go_enter Tryz.func4, Tryz.ntmps4
  go_upto_region 1 with fail
  generalize ((w.alloc (.cells #[.int .i64 n, .int .i64 g, .int .i64 a] 28)).alloc (.cells #[.int .i64 M.ad, .int .i64 M.kd, .int .i64 M.qt, .int .i64 M.x, .int .i64 M.y, .int .i64 M.pt, vb] 24)).alloc (.cells #[.int .i64 A, .int .i64 B, .int .i64 L, .int .i64 Mr, .bool no] 42) = W0 at *
  go_wp2_with fail
  refine (LongMacro_any M vb _ (HM0.out.below HB.out)).mono ?_
  rintro e v1 ⟨bl, rfl, hsh, h1⟩
  have HB := Lib.hid (chain HB.out h1)
  have H5 := Lib.hid (H5.out.below h1)
  have H6 := Lib.hid (H6.out.below h1)
  have H7 := Lib.hid (H7.out.below h1)
  have zb := Nat.le_trans zb h1.size
  have HSH := Lib.hid hsh
  clear h1 m0 m1 m2 m3 m4 m5 m6 hsh
  cases bl with
  | true =>
    go_wp2_with (go_at_call 10; refine (awake_any _).mono ?_; rintro e w1 ⟨rfl, hw⟩; have HB := Lib.hid (chain HB.out hw); clear hw)
    go_ret
    exact ⟨rfl, HB.out⟩
  | false =>
  have HM : Hid (M.at w vb) := Lib.hid ((HSH.out rfl).at HM0.out)
  have H8 := Lib.hid (HSH.out rfl).1
  clear HSH HM0
  have s0 := H5.out.cell 0 _ rfl
  have c0 := H7.out.cell 0 _ rfl
  have c1 := H7.out.cell 1 _ rfl
  have c2 := H7.out.cell 2 _ rfl
  have c3 := H7.out.cell 3 _ rfl
  have c4 := H7.out.cell 4 _ rfl
  go_wp2_with fail
  refine (made_any A B L Mr no n _).mono ?_
  rintro e v2 ⟨gi, N, N', F, fa, NF, fc, F2, rfl, hmd⟩
  have h2 := hmd.bel
  have HMd := Lib.hid hmd
  have HB := Lib.hid (chain HB.out h2)
  have H5 := Lib.hid (H5.out.below h2)
  have H6 := Lib.hid (H6.out.below h2)
  clear h2 hmd s0 c0 c1 c2 c3 c4 H7
  have m0 := H6.out.cell 0 _ rfl
  have m1 := H6.out.cell 1 _ rfl
  have m2 := H6.out.cell 2 _ rfl
  have m3 := H6.out.cell 3 _ rfl
  have m4 := H6.out.cell 4 _ rfl
  have m5 := H6.out.cell 5 _ rfl
  have m6 := H6.out.cell 6 _ rfl
  go_wp2_with fail
  refine (CopyMacro_any M vb _ (HM.out.below HB.out) H8.out).mono ?_
  rintro e v3 ⟨Q, C, va, rfl, hc, h3⟩
  obtain ⟨xa, xm, xc, rfl⟩ := own_slice hc.own
  have HCp := Lib.hid hc
  have HB := Lib.hid (chain HB.out h3)
  have H5 := Lib.hid (H5.out.below h3)
  have H6 := Lib.hid (H6.out.below h3)
  have H3 := Lib.hid h3
  have lgi := (HMd.out.a.lt (by have := HMd.out.n'; omega))
  have TO3 := Lib.hid (HMd.out.a.below h3 lgi)
  have FR3 := Lib.hid (HMd.out.s.below h3)
  have z3 := h3.size
  clear hc h3 m0 m1 m2 m3 m4 m5 m6
  go_wp2_with fail
  refine (LentBytes_any _ N' F _ (by have := HMd.out.n'; have := HMd.out.nb; omega) (Pa.part_sl TO3.out (by have := HMd.out.n'; omega) HMd.out.n'.2 (by have := HMd.out.nb; unfold maxLen; omega))).mono ?_
  rintro e v4 ⟨gL, cL, rfl, l1, l2, l3, l4, hL, h4⟩
  have HL4 := Lib.hid hL
  have HB := Lib.hid (chain HB.out h4)
  have H5 := Lib.hid (H5.out.below h4)
  have H6 := Lib.hid (H6.out.below h4)
  have TO4 := Lib.hid (TO3.out.below h4 (by omega))
  have FR4 := Lib.hid (FR3.out.below h4)
  have H4 := Lib.hid h4
  have z4 := h4.size
  clear hL h4
  go_wp2_with fail
  refine (LentBytes_any _ NF F2 _ (by have := HMd.out.nb; omega) FR4.out).mono ?_
  rintro e v5 ⟨gM, cM, rfl, j1, j2, j3, j4, hL, h5⟩
  have HO5 := Lib.hid hL
  have HB := Lib.hid (chain HB.out h5)
  have H5 := Lib.hid (H5.out.below h5)
  have H6 := Lib.hid (H6.out.below h5)
  have HL5 := Lib.hid (HL4.out.below h5 l2)
  have TO5 := Lib.hid (TO4.out.below h5 (by omega))
  have HV := Lib.hid h5
  have z5 := h5.size
  clear hL h5
  go_upto_region 5 with fail
  have b6 := (Below.refl v5.heap.size v5).alloc (Nat.le_refl _) (.cells #[.int .i64 M.ad, .int .i64 M.kd, .int .i64 M.qt, .int .i64 M.x, .int .i64 M.y, .int .i64 M.pt, .slice xa xm xc] 24)
  have IN6 : At _ _ _ _ := At.new v5 #[.int .i64 M.ad, .int .i64 M.kd, .int .i64 M.qt, .int .i64 M.x, .int .i64 M.y, .int .i64 M.pt, .slice xa xm xc] 24
  have ok : BC.ok ⟨n, g, a, M, vb, .slice xa xm xc, Q, C, qu, w.heap.size, w.heap.size + 1, v5.heap.size, gi, gL, gM, cL, cM, N, N', NF, fc, fa, F2, w, v3⟩ := ⟨Nat.le_refl _, Nat.le_succ _, ⟨by have := HMd.out.lo; show w.heap.size < gi; omega, by have := HMd.out.lo; show w.heap.size + 1 < gi; omega, by show gi < v3.heap.size; omega⟩, l1, by show gL < gM; omega, j2, HMd.out.n', HMd.out.nb.2, HMd.out.nb.1,
    (fun e => by
      have hn := HMd.out.n
      show N = N'
      have e : (N' : Int) = zV n := e
      have hb := HMd.out.n'
      have : n = n % 2 := by
        by_cases h : n = 0 ∨ n = 1
        · omega
        · unfold zV at e; rw [if_neg (by omega), if_neg (by omega)] at e; omega
      rw [← this] at hn
      omega), ⟨l3, l4⟩, ⟨j3, j4⟩, HM.out, MB.hi.mono (HCp.out.hi (fun j hj => MB.at_nn HM.out j hj)) (by show gi + 1 ≤ v2.heap.size + 2; omega), FR3.out, HMd.out.ne, HMd.out.bd⟩
  have bs : BS ⟨n, g, a, M, vb, .slice xa xm xc, Q, C, qu, w.heap.size, w.heap.size + 1, v5.heap.size, gi, gL, gM, cL, cM, N, N', NF, fc, fa, F2, w, v3⟩ (v5.alloc (.cells #[.int .i64 M.ad, .int .i64 M.kd, .int .i64 M.qt, .int .i64 M.x, .int .i64 M.y, .int .i64 M.pt, .slice xa xm xc] 24)) (lentF N' F) F := ⟨H5.out.below b6, H6.out.below b6, IN6, HL5.out.below b6 (by omega), TO5.out.below b6 (by omega), HO5.out.below b6 j2, (Off.below (Off.below (Off.below ⟨Nat.le_refl _, fun _ _ _ _ => rfl⟩ H4.out) HV.out) b6), chain HB.out b6⟩
  obtain ⟨St, E1, E2, S0, MAC1, MAC2, KM1, SK1, SK2, KM2, CEL, BEL⟩ := bs_pack ⟨n, g, a, M, vb, .slice xa xm xc, Q, C, qu, w.heap.size, w.heap.size + 1, v5.heap.size, gi, gL, gM, cL, cM, N, N', NF, fc, fa, F2, w, v3⟩ F _ ok bs
  have KK := Lib.hid ok
  have S0 := Lib.hid S0
  have MAC1 := Lib.hid MAC1
  have MAC2 := Lib.hid MAC2
  have KM1 := Lib.hid KM1
  have SK1 := Lib.hid SK1
  have SK2 := Lib.hid SK2
  have KM2 := Lib.hid KM2
  have BEL := Lib.hid BEL
  have CEL := Lib.hid CEL
  have CE : Hid (∀ i V, St i V → V.cell? ⟨w.heap.size, 0, none⟩ = some (.int .i64 n) ∧ V.cell? ⟨w.heap.size, 1, none⟩ = some (.int .i64 g) ∧ V.cell? ⟨w.heap.size, 2, none⟩ = some (.int .i64 a) ∧ V.cell? ⟨w.heap.size + 1, 0, none⟩ = some (.int .i64 M.ad) ∧ V.cell? ⟨w.heap.size + 1, 1, none⟩ = some (.int .i64 M.kd) ∧ V.cell? ⟨w.heap.size + 1, 2, none⟩ = some (.int .i64 M.qt) ∧ V.cell? ⟨w.heap.size + 1, 3, none⟩ = some (.int .i64 M.x) ∧ V.cell? ⟨w.heap.size + 1, 4, none⟩ = some (.int .i64 M.y) ∧ V.cell? ⟨w.heap.size + 1, 5, none⟩ = some (.int .i64 M.pt) ∧ V.cell? ⟨w.heap.size + 1, 6, none⟩ = some vb ∧ V.cell? ⟨v5.heap.size, 0, none⟩ = some (.int .i64 M.ad) ∧ V.cell? ⟨v5.heap.size, 1, none⟩ = some (.int .i64 M.kd) ∧ V.cell? ⟨v5.heap.size, 2, none⟩ = some (.int .i64 M.qt) ∧ V.cell? ⟨v5.heap.size, 3, none⟩ = some (.int .i64 M.x) ∧ V.cell? ⟨v5.heap.size, 4, none⟩ = some (.int .i64 M.y) ∧ V.cell? ⟨v5.heap.size, 5, none⟩ = some (.int .i64 M.pt) ∧ V.cell? ⟨v5.heap.size, 6, none⟩ = some (.slice xa xm xc)) := Lib.hid (fun i V h => by
    obtain ⟨fm, ft, hb⟩ := CEL.out i V h
    exact hb.cells)
  have SM1 : Hid (∀ i V, St i V → Calls Tryz.prog 15 #[.slice (some ⟨gM, 0, none⟩) NF cM, sp n g a, mv M (.slice xa xm xc), .int .i64 qu] V (rsmpPost M n g a NF F2 qu V)) := Lib.hid (fun i V h => by
    obtain ⟨fm, ft, hb⟩ := CEL.out i V h
    exact hb.smp1 KK.out)
  have SM2 : Hid (∀ i V, St i V → Calls Tryz.prog 22 #[.slice fa NF fc, sp n g a, mv M vb, .int .i64 qu] V (rsmpPost M n g a NF F2 qu V)) := Lib.hid (fun i V h => by
    obtain ⟨fm, ft, hb⟩ := CEL.out i V h
    exact hb.smp2 KK.out)
  have SAM : Hid (∀ i V, St i V → Calls Tryz.prog 28 #[mv M (.slice xa xm xc), mv M vb] V fun e w' => e = .returned (.bool true) ∧ Below V.heap.size V w') := Lib.hid (fun i V h => by
    obtain ⟨fm, ft, hb⟩ := CEL.out i V h
    exact SameMacro_true M Q C _ vb V (hb.i KK.out) (hb.m KK.out))
  have KOT : Hid (∀ i V, St i V → Calls Tryz.prog 25 #[.slice (some ⟨gM, 0, none⟩) NF cM, .slice fa NF fc] V fun e w' => e = .returned (.bool true) ∧ Below V.heap.size V w') := Lib.hid (fun i V h => by
    obtain ⟨fm, ft, hb⟩ := CEL.out i V h
    have k4 := KK.out.n2
    exact KeptBytes_row gM cM NF fa fc F2 V (by show NF ≤ 1000000; have : NF ≤ 152064 := k4; omega) KK.out.cM.1 KK.out.cM.2 hb.other (hb.f KK.out))
  have BW : Hid (∀ i V, St i V → Below w.heap.size w V) := Lib.hid (fun i V h => by
    obtain ⟨fm, ft, hb⟩ := CEL.out i V h
    exact hb.bel)
  obtain ⟨EE, hEE⟩ : ∃ x, smE M n g a NF qu = x := ⟨_, rfl⟩
  have HEE := Lib.hid hEE
  obtain ⟨SS, hSS⟩ : ∃ x, smp M n g a (aF NF F2) qu = x := ⟨_, rfl⟩
  have HSS := Lib.hid hSS
  obtain ⟨K, hK⟩ : ∃ x, sixN EE = x := ⟨_, rfl⟩
  have HKE := Lib.hid hK
  have HK6 : Hid (K ≤ 6) := Lib.hid (by rw [← hK]; unfold sixN; split <;> omega)
  clear hEE hSS hK ok bs b6 IN6 CEL KK HM H8 HMd HCp HB H5 H6 H3 H4 HV TO3 TO4 TO5 FR3 FR4 HL4 HL5 HO5 l1 l2 l3 l4 j1 j2 j3 j4 z3 z4 z5 zb lgi
  generalize v5.alloc (.cells #[.int .i64 M.ad, .int .i64 M.kd, .int .i64 M.qt, .int .i64 M.x, .int .i64 M.y, .int .i64 M.pt, .slice xa xm xc] 24) = W6 at *
  obtain ⟨k0, k1, k2, m0, m1, m2, m3, m4, m5, m6, i0, i1, i2, i3, i4, i5, i6⟩ := CE.out 0 _ S0.out
  go_wp2_with fail
  refine (SM1.out 0 _ S0.out).mono ?_
  intro e v7 hp
  obtain ⟨qa, ca, ga, VA, rfl, a1, a2, a3, h7⟩ := rows_of hp
  rw [HEE.out, HSS.out] at a3
  rw [HEE.out] at a1 a2
  rw [HEE.out, HKE.out]
  rw [HKE.out] at a1 a2 a3
  have RA := Lib.hid a3
  have HQA := Lib.hid a2
  have S0' := Lib.hid (BEL.out 0 _ _ S0.out h7)
  have HB7 := Lib.hid h7
  clear hp a3 a2 h7 k0 k1 k2 m0 m1 m2 m3 m4 m5 m6 i0 i1 i2 i3 i4 i5 i6
  obtain ⟨k0, k1, k2, m0, m1, m2, m3, m4, m5, m6, i0, i1, i2, i3, i4, i5, i6⟩ := CE.out 0 _ S0'.out
  go_wp2_with fail
  refine (SM2.out 0 _ S0'.out).mono ?_
  intro e v8 hp
  obtain ⟨qb, cb, gb, VB, rfl, b1, b2, b3, h8⟩ := rows_of hp
  rw [HEE.out, HSS.out] at b3
  rw [HEE.out] at b1 b2
  rw [HEE.out, HKE.out]
  rw [HKE.out] at b1 b2 b3
  have RB := Lib.hid b3
  have HQB := Lib.hid b2
  have HB8 := Lib.hid (chain HB7.out h8)
  have RA8 := Lib.hid (RA.out.below h8)
  have LR0 : Hid (LR K ga gb VA VB SS 0 v8) := Lib.hid (fun i hi => ⟨RA8.out.cell i hi, RB.out.cell i hi, fun _ => RA8.out.arr i hi, RB.out.arr i hi⟩)
  have tE : (EE != EE) = false := by simp
  have tK : ((K : Int) != (K : Int)) = false := by simp
  clear hp b3 b2 h8 k0 k1 k2 m0 m1 m2 m3 m4 m5 m6 i0 i1 i2 i3 i4 i5 i6 S0' HB7 HSS HEE SM1 SM2
  go_wp2_with fail
  go_loopw [18] (fun x wr => ∃ k : Nat, k ≤ K ∧ x = .int .i64 k ∧ Hid (Below W6.heap.size W6 wr) ∧ Hid (LR K ga gb VA VB SS k wr)) (fun x _ => K - (intOf x).toNat)
  case atStart => exact ⟨0, by omega, rfl, HB8, LR0⟩
  case round =>
    obtain ⟨k, hk, rfl, HBR, HLR⟩ := hrel
    have hk6 := HK6.out
    by_cases hkK : k < K
    · have kb : (0 : Int) ≤ (k : Int) ∧ (k : Int) < (K : Int) := by omega
      have ek : IntKind.i64.wrap ((k : Int) + 1) = (k : Int) + 1 := IntWalk.i64_in _ (by omega)
      obtain rfl := HQA.out (by omega)
      obtain rfl := HQB.out (by omega)
      obtain ⟨e1, e2, r1, r2⟩ := HLR.out k hkK
      have ra := r1 (Nat.le_refl _)
      have cpA := RA8.out.cap k hkK
      have cpB := RB.out.cap k hkK
      have SB : Hid (∀ V, Below wr.heap.size wr V → Calls Tryz.prog 17 #[.slice (some ⟨(VA k).1, 0, none⟩) 64 (VA k).2, .slice (some ⟨(VB k).1, 0, none⟩) 64 (VB k).2] V fun e w' => e = .returned (.bool true) ∧ Below V.heap.size V w') := Lib.hid (fun V hV => (SameBytes_true _ _ 64 _ _ V (arr_part (ra.below hV (ra.lt (by omega))) (by omega) cpA.1 cpA.2) (arr_part (r2.below hV (r2.lt (by omega))) (by omega) cpB.1 cpB.2) (fun i _ => rfl)).mono (by rintro e w' ⟨rfl, rfl⟩; exact ⟨rfl, Below.refl _ _⟩))
      have OB : Hid (∀ V, Below wr.heap.size wr V → Calls Tryz.prog 23 #[.slice (some ⟨(VA k).1, 0, none⟩) 64 (VA k).2] V fun e w' => e = .returned (.tuple #[]) ∧ V.grownBy w' (some (VA k).1)) := Lib.hid (fun V hV => OverBytes_row _ 64 _ (SS k) V (by omega) (ra.below hV (ra.lt (by omega))))
      have q1 := Past.cell e1
      have q2 := Past.cell e2
      clear r1 r2 ra
      go_upto_region 12 with fail
      refine wp_region_past (by kernel_rfl) (by kernel_rfl) ?_
      repeat (go_big_quiet_step ((go_at_call 17; exact past_call (SB.out _ (Past.kept _)))))
      refine wpQuiet_nil ?_
      rintro _ ⟨⟨w9, h9⟩, rfl⟩
      have HBR := Lib.hid (chain HBR.out h9)
      have HLR := Lib.hid (HLR.out.below h9)
      have CALL := Lib.hid (OB.out _ h9)
      have e1 := (HLR.out k hkK).1
      have hsz := HBR.out.size
      have lA := RA8.out.lo k hkK
      clear q1 q2 e2 SB OB h9
      go_wp2_with (go_at_call 23; refine CALL.out.mono ?_; rintro e w10 ⟨rfl, hG⟩; have HLR := Lib.hid (HLR.out.over RA.out RB.out hkK hG); have HBR := Lib.hid (HBR.out.grown hG HBR.out.size (fun q e => by have := Option.some.inj e; omega)); clear hG e1)
      go_roundw
      case rel => exact ⟨k + 1, by omega, by go_num, HBR, HLR⟩
      case measure => simp [intOf]; omega
    · have kb : ¬ (k : Int) < (K : Int) := by omega
      have S0 := Lib.hid (BEL.out 0 _ _ S0.out (HBR.out.drew))
      clear HLR LR0 RA RB RA8 HQA HQB HBR HB8
      go_upto_region 15 with fail
      have tE1 : (E1 != E1) = false := by simp
      have tE2 : (E2 != E2) = false := by simp
      obtain ⟨k0, k1, k2, m0, m1, m2, m3, m4, m5, m6, i0, i1, i2, i3, i4, i5, i6⟩ := CE.out 0 _ S0.out
      go_region_held3 (fun w' => w'.cell? ⟨w.heap.size, 0, none⟩ = some (.int .i64 n) ∧ w'.cell? ⟨w.heap.size, 1, none⟩ = some (.int .i64 g) ∧ w'.cell? ⟨w.heap.size, 2, none⟩ = some (.int .i64 a) ∧ w'.cell? ⟨w.heap.size + 1, 0, none⟩ = some (.int .i64 M.ad) ∧ w'.cell? ⟨w.heap.size + 1, 1, none⟩ = some (.int .i64 M.kd) ∧ w'.cell? ⟨w.heap.size + 1, 2, none⟩ = some (.int .i64 M.qt) ∧ w'.cell? ⟨w.heap.size + 1, 3, none⟩ = some (.int .i64 M.x) ∧ w'.cell? ⟨w.heap.size + 1, 4, none⟩ = some (.int .i64 M.y) ∧ w'.cell? ⟨w.heap.size + 1, 5, none⟩ = some (.int .i64 M.pt) ∧ w'.cell? ⟨w.heap.size + 1, 6, none⟩ = some vb ∧ w'.cell? ⟨v5.heap.size, 0, none⟩ = some (.int .i64 M.ad) ∧ w'.cell? ⟨v5.heap.size, 1, none⟩ = some (.int .i64 M.kd) ∧ w'.cell? ⟨v5.heap.size, 2, none⟩ = some (.int .i64 M.qt) ∧ w'.cell? ⟨v5.heap.size, 3, none⟩ = some (.int .i64 M.x) ∧ w'.cell? ⟨v5.heap.size, 4, none⟩ = some (.int .i64 M.y) ∧ w'.cell? ⟨v5.heap.size, 5, none⟩ = some (.int .i64 M.pt) ∧ w'.cell? ⟨v5.heap.size, 6, none⟩ = some (.slice xa xm xc))
        (first | exact CE.out 0 _ S0.out | exact CE.out 1 _ S1.out | exact CE.out 2 _ S2.out | exact CE.out 3 _ S3.out)
        (first
          | (go_at_call 16; refine (MAC1.out _ S0.out).mono ?_; rintro e V1 ⟨rfl, hS⟩; have S1 := Lib.hid hS; clear hS)
          | (go_at_call 24; refine (MAC2.out _ S1.out).mono ?_; rintro e V2 ⟨rfl, hS⟩; have S2 := Lib.hid hS; clear hS)
          | (go_at_call 25; refine (KM1.out _ S2.out).mono ?_; rintro e V3 ⟨rfl, hS⟩; have S3 := Lib.hid hS; clear hS))
      clear k0 k1 k2 m0 m1 m2 m3 m4 m5 m6 i0 i1 i2 i3 i4 i5 i6
      have S3 := Lib.hid (BEL.out 3 _ _ S3.out ((Below.refl _ _).drew))
      go_upto_region 17 with fail
      obtain ⟨k0, k1, k2, m0, m1, m2, m3, m4, m5, m6, i0, i1, i2, i3, i4, i5, i6⟩ := CE.out 3 _ S3.out
      go_region_held3 (fun w' => w'.cell? ⟨w.heap.size, 0, none⟩ = some (.int .i64 n) ∧ w'.cell? ⟨w.heap.size, 1, none⟩ = some (.int .i64 g) ∧ w'.cell? ⟨w.heap.size, 2, none⟩ = some (.int .i64 a) ∧ w'.cell? ⟨w.heap.size + 1, 0, none⟩ = some (.int .i64 M.ad) ∧ w'.cell? ⟨w.heap.size + 1, 1, none⟩ = some (.int .i64 M.kd) ∧ w'.cell? ⟨w.heap.size + 1, 2, none⟩ = some (.int .i64 M.qt) ∧ w'.cell? ⟨w.heap.size + 1, 3, none⟩ = some (.int .i64 M.x) ∧ w'.cell? ⟨w.heap.size + 1, 4, none⟩ = some (.int .i64 M.y) ∧ w'.cell? ⟨w.heap.size + 1, 5, none⟩ = some (.int .i64 M.pt) ∧ w'.cell? ⟨w.heap.size + 1, 6, none⟩ = some vb ∧ w'.cell? ⟨v5.heap.size, 0, none⟩ = some (.int .i64 M.ad) ∧ w'.cell? ⟨v5.heap.size, 1, none⟩ = some (.int .i64 M.kd) ∧ w'.cell? ⟨v5.heap.size, 2, none⟩ = some (.int .i64 M.qt) ∧ w'.cell? ⟨v5.heap.size, 3, none⟩ = some (.int .i64 M.x) ∧ w'.cell? ⟨v5.heap.size, 4, none⟩ = some (.int .i64 M.y) ∧ w'.cell? ⟨v5.heap.size, 5, none⟩ = some (.int .i64 M.pt) ∧ w'.cell? ⟨v5.heap.size, 6, none⟩ = some (.slice xa xm xc))
        (first | exact CE.out 3 _ S3.out | exact CE.out 4 _ S4.out | exact CE.out 5 _ S5.out | exact CE.out 6 _ S6.out)
        (first
          | (go_at_call 26; refine (SK1.out _ S3.out).mono ?_; rintro e V4 ⟨rfl, hS⟩; have S4 := Lib.hid hS; clear hS)
          | (go_at_call 27; refine (SK2.out _ S4.out).mono ?_; rintro e V5 ⟨rfl, hS⟩; have S5 := Lib.hid hS; clear hS)
          | (go_at_call 25; refine (KM2.out _ S5.out).mono ?_; rintro e V6 ⟨rfl, hS⟩; have S6 := Lib.hid hS; clear hS))
      clear k0 k1 k2 m0 m1 m2 m3 m4 m5 m6 i0 i1 i2 i3 i4 i5 i6
      obtain ⟨k0, k1, k2, m0, m1, m2, m3, m4, m5, m6, i0, i1, i2, i3, i4, i5, i6⟩ := CE.out 6 _ S6.out
      go_wp2_with (first
        | (go_at_call 28; refine (SAM.out 6 _ S6.out).mono ?_; rintro e V7 ⟨rfl, hb⟩; have S7 := Lib.hid (BEL.out 6 _ _ S6.out hb); clear hb k0 k1 k2 m0 m1 m2 m3 m4 m5 m6 i0 i1 i2 i3 i4 i5 i6)
        | (go_at_call 25; refine (KOT.out 6 _ S7.out).mono ?_; rintro e V8 ⟨rfl, hb⟩; have S8 := Lib.hid (BEL.out 6 _ _ S7.out hb); clear hb)
        | (go_at_call 10; refine (awake_any _).mono ?_; rintro e V9 ⟨rfl, hb⟩; have S9 := Lib.hid (BEL.out 6 _ _ S8.out hb); clear hb))
      go_ret
      exact ⟨rfl, BW.out 6 _ S9.out⟩
end Bl
end Go.Proofs.YtbmglemjfodfhaaGreat
