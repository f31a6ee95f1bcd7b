/- Blocks copied; blocks that are the same. -/
import Derived.Test.YtpibeocngkjolaaGreatDoorMgBk
import Derived.Test.YtpibeocngkjolaaGreatDoorMgDqN
import Derived.BigQuiet
set_option linter.unusedVariables false
set_option linter.unusedSimpArgs false

namespace Go.Proofs.YtpibeocngkjolaaGreatDoor
open Go.RowKit Go.Shelf
set_option linter.unusedSimpArgs false
set_option linter.unusedVariables false
namespace Dk
open Bk Sc
theorem ob_set {V : World} {b : Nat} {vs : Array Value} {t : TypeId} (h : V.heap[b]? = some (.cells vs t (0, 0))) (i : Nat) (v : Value) : (V.setCell ⟨b, i, none⟩ v).heap[b]? = some (.cells (vs.setIfInBounds i v) t (0, 0)) := by
  obtain ⟨hlt, hk⟩ := Array.getElem?_eq_some_iff.1 h
  show (V.heap.modify b _)[b]? = _
  rw [Array.getElem?_eq_getElem (by rw [Array.size_modify]; exact hlt), Array.getElem_modify_self, hk]
  rfl
theorem grown_cell2 (V : World) (b i : Nat) (v : Value) : V.grownBy (V.setCell ⟨b, i, none⟩ v) (some b) := grown_set (World.grownBy.refl V _) i v
theorem news_pairs {w : World} {b o n : Nat} {r l : Nat → Int} (h : Pairs w b o n r l) : ∀ j u, (pcs r l n)[j]? = some u → w.cell? ((⟨b, o, none⟩ : Addr).add j) = some u := by
  intro j u hu
  have hj : j < n * 2 := by
    have := (List.getElem?_eq_some_iff.1 hu).1
    rwa [pcs_len] at this
  obtain ⟨p1, p2⟩ := pcs_get r l n (j / 2) (by omega)
  obtain ⟨e1, e2⟩ := h (j / 2) (by omega)
  rw [Addr.add_lit]
  rcases (by omega : j = j / 2 * 2 ∨ j = j / 2 * 2 + 1) with e | e
  · rw [e, p1] at hu
    rw [e, ← hu, ← e1]
  · rw [e, p2] at hu
    rw [e, ← hu, ← e2, Nat.add_assoc]
theorem one_pairs (r l : Nat → Int) : ∀ n, ∀ u ∈ pcs r l n, u.oneCell' = true
  | 0, u, h => by cases h
  | n + 1, u, h => by
    rw [pcs, List.mem_append] at h
    rcases h with h | h
    · exact one_pairs r l n u h
    · simp only [List.mem_cons, List.not_mem_nil, or_false] at h
      rcases h with rfl | rfl <;> rfl
theorem info_pair : (Tryz.prog.info? 69).map (fun i => (i.zero, i.size, i.bytes)) = some (some (.agg #[.int .i64 0, .int .i64 0]), 2, 16) := by kernel_rfl
/-- pairs of the call's own. -/
abbrev OwnP (w : World) (B : Nat) (v : Value) (n : Nat) (r l : Nat → Int) : Prop := w.ownsRow B 69 2 v n (pcs r l n)
theorem OwnP.form {w : World} {B : Nat} {v : Value} {n : Nat} {r l : Nat → Int} (h : OwnP w B v n r l) : ∃ q c, v = .slice q n c := by
  rcases h.2 with ⟨rfl, h0⟩ | ⟨g, cap, cur, rfl, _⟩
  · have : n = 0 := by simpa [pcs_len] using h0
    subst this
    exact ⟨_, _, rfl⟩
  · exact ⟨_, _, rfl⟩
theorem OwnP.pl {w : World} {B : Nat} {v : Value} {n : Nat} {r l : Nat → Int} (h : OwnP w B v n r l) : Pl w v n r l := (RPl.of_own h).pl
theorem own_apart {w : World} {B1 B2 n1 n2 s1 s2 : Nat} {e1 e2 : TypeId} {v1 v2 : Value} {l1 l2 : List Value} (he : e1 ≠ e2) (h1 : w.ownsRow B1 e1 s1 v1 n1 l1) (h2 : w.ownsRow B2 e2 s2 v2 n2 l2) : v1.ownBlock = none ∨ v1.ownBlock ≠ v2.ownBlock := by
  rcases h1.2 with ⟨rfl, _⟩ | ⟨g, cap, cur, rfl, _, hg, _⟩
  · exact .inl rfl
  · refine .inr fun e => ?_
    rcases h2.2 with ⟨rfl, _⟩ | ⟨g2, cap2, cur2, rfl, _, hg2, _⟩
    · simp [Value.ownBlock] at e
    · have e : g = g2 := by simpa [Value.ownBlock] using e
      subst e
      rw [hg] at hg2
      have := Option.some.inj hg2
      injection this with _ h _
      exact he h
theorem own_mono {w : World} {B B' n s : Nat} {e : TypeId} {v : Value} {l : List Value} (h : w.ownsRow B e s v n l) (hb : B' ≤ B) : w.ownsRow B' e s v n l := by
  refine ⟨h.1, ?_⟩
  rcases h.2 with h | ⟨g, cap, cur, rfl, h1, h2⟩
  · exact .inl h
  · exact .inr ⟨g, cap, cur, rfl, Nat.le_trans hb h1, h2⟩
theorem OwnP.keep {w w' : World} {B x : Nat} {v : Value} {n : Nat} {r l : Nat → Int} (h : OwnP w B v n r l) (hg : w.grownBy w' (some x)) (hx : x < B) : OwnP w' B v n r l :=
  World.ownsRow.kept h hg (by
    by_cases h0 : v.ownBlock = none
    · exact .inl h0
    · exact .inr (fun e => by have := (World.ownsRow.lt h _ e).1; omega))
def CpB (w : World) (dc : Int) (n : Nat) (r l : Nat → Int) (e : Ending) (w' : World) : Prop := ∃ v, e = .returned (.agg #[.int .i64 dc, v]) ∧ OwnP w' w.heap.size v n r l ∧ Below w.heap.size w w'
section
set_option maxRecDepth 100000
set_option maxHeartbeats 2000000
theorem CopyBlock_at (dc : Int) (ad : Addr) (n c : Nat) (r l : Nat → Int) (w : World) (hn : n ≤ 1000) (h1 : ∀ j u, (pcs r l n)[j]? = some u → w.cell? (ad.add j) = some u) :
    Calls Tryz.prog 17 #[bv dc (some ad) n c] w (CpB w dc n r l) := by
  obtain ⟨i0, hi, hz0, hz1, hz2⟩ := info_parts info_pair
  have b1 := (((Below.refl w.heap.size w).alloc (Nat.le_refl _) (.cells #[.int .i64 dc, .slice (some ad) n c] 27)).alloc (by simp) (.cells #[.int .i64 0, .slice none 0 0] 27)).alloc (by simp; omega) (.cells #[] 69)
  have HB := Lib.hid b1
  have NW := Lib.hid (fun j u h => (b1.cell (p := ad.add j) (World.block_lt_of_cell? w _ (h1 j u h))).trans (h1 j u h))
  have OW := Lib.hid (one_pairs r l n)
  have H0 : Hid (At _ _ _ _) := Lib.hid (((At.new w #[.int .i64 dc, .slice (some ad) n c] 27).below ((Below.refl _ _).alloc (Nat.le_refl _) (.cells #[.int .i64 0, .slice none 0 0] 27))).below ((Below.refl _ _).alloc (Nat.le_refl _) (.cells #[] 69)))
  have H1 : Hid (At _ _ _ _) := Lib.hid ((At.new (w.alloc (.cells #[.int .i64 dc, .slice (some ad) n c] 27)) #[.int .i64 0, .slice none 0 0] 27).below ((Below.refl _ _).alloc (Nat.le_refl _) (.cells #[] 69)))
  simp only [World.size_alloc] at H1
  have OWN := Lib.hid (World.ownsRow_made (base := w.heap.size + 2) (e := 69) (size := 2) ((w.alloc (.cells #[.int .i64 dc, .slice (some ad) n c] 27)).alloc (.cells #[.int .i64 0, .slice none 0 0] 27)) #[] 0 (by simp) (Nat.zero_le _) rfl)
  simp only [World.size_alloc] at OWN
  have k1 := H0.out.cell 1 _ rfl
  clear b1 h1
  go_enter Tryz.func17, Tryz.ntmps17
  go_wp2_with (at_builtin; go_loud (refine wpList_append_own _ rfl _ _ 25 rfl (w.heap.size + 2) 69 i0 (.agg #[.int .i64 0, .int .i64 0]) 2 16 Tryz.underlying25 hi hz0 hz1 hz2 rfl (by decide) _ _ _ rfl OWN.out ad n c (pcs r l n) rfl (pcs_len r l n) NW.out OW.out (by unfold maxLen; omega) (by omega) (by simp only [World.size_alloc]; omega) ?_; intro v' w1 hown hgr hnil; simp only [Nat.zero_add, List.nil_append] at hown; have hb1 := HB.out.grown hgr (by simp only [World.size_alloc]; omega) (fun q e => by have := (OWN.out.lt q e).1; omega); have H0 := Lib.hid (H0.out.kept hgr (fun e => by have := (OWN.out.lt _ e.symm).1; omega)); have H1 := Lib.hid (H1.out.kept hgr (fun e => by have := (OWN.out.lt _ e.symm).1; omega)); have HP := Lib.hid hown; have HB := Lib.hid hb1; clear hown hgr hnil hb1 k1 NW OW; have f1 : w1.frozen? ⟨w.heap.size, 1, none⟩ = false := frozen_of_row H0.out 1; have c0 := H0.out.cell 0 _ rfl; have c1 := H0.out.cell 1 _ rfl; have d0 := H1.out.cell 0 _ rfl; have d1 := H1.out.cell 1 _ rfl; have e0 : w1.frozen? ⟨w.heap.size + 1, 0, none⟩ = false := frozen_of_row H1.out 0; have e1 : w1.frozen? ⟨w.heap.size + 1, 1, none⟩ = false := frozen_of_row H1.out 1; obtain ⟨q, c', rfl⟩ := OwnP.form HP.out))
  have g1 := grown_cell2 w1 w.heap.size 1 (.slice q n c')
  have hlt := H1.out.lt
  have H1' : At _ _ _ _ := H1.out.kept g1 (fun e => by have e := Option.some.inj e; omega)
  have HP' := OwnP.keep HP.out g1 (by omega)
  have HB' := HB.out.grown g1 HB.out.size (fun q e => by have := Option.some.inj e; omega)
  have g2 := grown_set (grown_cell2 (w1.setCell ⟨w.heap.size, 1, none⟩ (.slice q n c')) (w.heap.size + 1) 0 (.int .i64 dc)) 1 (.slice q n c')
  refine bodyPost_ret (results_cell_row rfl _ _ (w.heap.size + 1) _ _ _ _ rfl (ob_set (ob_set H1' 0 (.int .i64 dc)) 1 (.slice q n c')) Tryz.underlying27 rfl (by kernel_rfl)) rfl ?_
  exact ⟨_, rfl, own_mono (OwnP.keep HP' g2 (by omega)) (by omega), HB'.grown g2 HB'.size (fun q e => by have := Option.some.inj e; omega)⟩
theorem CopyBlock_nil (dc : Int) (r l : Nat → Int) (w : World) :
    Calls Tryz.prog 17 #[bv dc none 0 0] w (CpB w dc 0 r l) := by
  have b1 := (((Below.refl w.heap.size w).alloc (Nat.le_refl _) (.cells #[.int .i64 dc, .slice none 0 0] 27)).alloc (by simp) (.cells #[.int .i64 0, .slice none 0 0] 27)).alloc (by simp; omega) (.cells #[] 69)
  have H0 : Hid (At _ _ _ _) := Lib.hid (((At.new w #[.int .i64 dc, .slice none 0 0] 27).below ((Below.refl _ _).alloc (Nat.le_refl _) (.cells #[.int .i64 0, .slice none 0 0] 27))).below ((Below.refl _ _).alloc (Nat.le_refl _) (.cells #[] 69)))
  have k1 := H0.out.cell 1 _ rfl
  have f1 : _ := frozen_of_row H0.out 1
  clear b1
  go_enter Tryz.func17, Tryz.ntmps17
  go_wp2_with fail
  have hb2 := (((Below.refl w.heap.size w).alloc (Nat.le_refl _) (.cells #[.int .i64 dc, .slice (some ⟨w.heap.size + 1 + 1, 0, none⟩) 0 0] 27)).alloc (by simp) (.cells #[.int .i64 dc, .slice (some ⟨w.heap.size + 1 + 1, 0, none⟩) 0 0] 27)).alloc (by simp; omega) (.cells #[] 69)
  have HR : At _ _ _ _ := (At.new (w.alloc (.cells #[.int .i64 dc, .slice (some ⟨w.heap.size + 1 + 1, 0, none⟩) 0 0] 27)) #[.int .i64 dc, .slice (some ⟨w.heap.size + 1 + 1, 0, none⟩) 0 0] 27).below ((Below.refl _ _).alloc (Nat.le_refl _) (.cells #[] 69))
  have OW2 := World.ownsRow_made (base := w.heap.size) (e := 69) (size := 2) ((w.alloc (.cells #[.int .i64 dc, .slice (some ⟨w.heap.size + 1 + 1, 0, none⟩) 0 0] 27)).alloc (.cells #[.int .i64 dc, .slice (some ⟨w.heap.size + 1 + 1, 0, none⟩) 0 0] 27)) #[] 0 (by simp; omega) (Nat.zero_le _) rfl
  simp only [World.size_alloc] at HR OW2
  refine bodyPost_ret (results_cell_row rfl _ _ (w.heap.size + 1) _ _ _ _ rfl HR Tryz.underlying27 rfl (by kernel_rfl)) rfl ?_
  exact ⟨_, rfl, OW2, hb2⟩
theorem CopyBlock_any (dc : Int) (q : Option Addr) (n c : Nat) (r l : Nat → Int) (w : World) (hn : n ≤ 1000) (h : Pl w (.slice q n c) n r l) :
    Calls Tryz.prog 17 #[bv dc q n c] w (CpB w dc n r l) := by
  obtain ⟨a, c', e, _, _, h3⟩ := h
  cases e
  rcases h3 with ⟨rfl, h5⟩ | ⟨b, o, rfl, _, h4⟩
  · cases q with
    | none =>
      obtain rfl : c = 0 := h5 rfl
      exact CopyBlock_nil dc r l w
    | some a => exact CopyBlock_at dc a 0 c r l w hn (fun j u h => by cases h)
  · exact CopyBlock_at dc _ n c r l w hn (news_pairs h4)
theorem SameBlock_eq (dc : Int) (q1 q2 : Option Addr) (n c1 c2 : Nat) (r l r' l' : Nat → Int) (w : World) (hn : n ≤ 1000) (h1 : Pl w (.slice q1 n c1) n r l) (h2 : Pl w (.slice q2 n c2) n r' l') (he : ∀ i, i < n → r' i = r i ∧ l' i = l i) :
    Calls Tryz.prog 14 #[bv dc q1 n c1, bv dc q2 n c2] w fun e w' => e = .returned (.bool true) ∧ Below w.heap.size w w' := by
  have b1 := ((Below.refl w.heap.size w).alloc (Nat.le_refl _) (.cells #[.int .i64 dc, .slice q1 n c1] 27)).alloc (by simp) (.cells #[.int .i64 dc, .slice q2 n c2] 27)
  have HB := Lib.hid b1
  have HS := Lib.hid (SamePairs_true _ _ n r l r' l' _ (by omega) (h1.below b1) (h2.below b1) he)
  have H0 : Hid (At _ _ _ _) := Lib.hid ((At.new w #[.int .i64 dc, .slice q1 n c1] 27).below ((Below.refl _ _).alloc (Nat.le_refl _) (.cells #[.int .i64 dc, .slice q2 n c2] 27)))
  have H1 : Hid (At _ _ _ _) := Lib.hid (At.new (w.alloc (.cells #[.int .i64 dc, .slice q1 n c1] 27)) #[.int .i64 dc, .slice q2 n c2] 27)
  simp only [World.size_alloc] at H1
  have a0 := H0.out.cell 0 _ rfl
  have a1 := H0.out.cell 1 _ rfl
  have d0 := H1.out.cell 0 _ rfl
  have d1 := H1.out.cell 1 _ rfl
  have t1 : (dc == dc) = true := by simp
  clear b1 h1 h2 he
  go_enter Tryz.func14, Tryz.ntmps14
  go_wp2_with (go_at_call 42; refine HS.out.mono ?_; rintro e w1 ⟨rfl, b2⟩; have HB := Lib.hid (chain HB.out b2); clear b2)
  go_ret
  exact ⟨rfl, HB.out⟩
end
end Dk
end Go.Proofs.YtpibeocngkjolaaGreatDoor
