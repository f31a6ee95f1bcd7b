/- The document's Get of a block. | The document's Get of a block: the loops. | The document's Get of a block: intra. -/
import Derived.Test.YtpibeocngkjolaaGreatDoorMgChU
import Derived.Test.YtpibeocngkjolaaGreatDoorMgDpC
import Derived.Test.YtpibeocngkjolaaGreatDoorMgDpR
import Derived.Deep.LoopGhost
set_option linter.unusedVariables false
set_option linter.unusedSimpArgs false

namespace Go.Proofs.YtpibeocngkjolaaGreatDoor
open Go.RowKit Go.Shelf
set_option linter.unusedSimpArgs false
set_option linter.unusedVariables false
namespace Dk
open Cf Bk Sc
theorem ownP_nil (w : World) (B : Nat) (r l : Nat → Int) : OwnP w B (.slice none 0 0) 0 r l := World.ownsRow_nil w B _ _
/-- what a block's Get comes to. -/
def GotB (F : Nat → Int) (N : Nat) (p : Int) (intra : Bool) (w : World) (e : Ending) (w' : World) : Prop :=
  ∃ (E dc b : Int) (n : Nat) (q : Option Addr) (c : Nat), GB F N p intra E dc n b ∧ e = .returned (.tuple #[bv dc q n c, .int .i64 b, .int .i64 E]) ∧
    OwnP w' w.heap.size (.slice q n c) n (fun j => (gg F N (!intra) (hP p intra) j).r) (fun j => (gg F N (!intra) (hP p intra) j).l) ∧ Below w.heap.size w w'
/-- the first code is fit, or the place lies beyond. -/
def HHp (F : Nat → Int) (N : Nat) (p : Int) (intra : Bool) : Prop := hE F N p intra = 0 ∨ (intra = false ∧ 0 ≤ p ∧ 8 * (N : Int) < p)
section
variable {F : Nat → Int} {N : Nat} {p : Int} {intra fi : Bool} {k : Nat}
theorem far_err (hp : 8 * (N : Int) < p) (h0 : 0 ≤ p) : gg F N true p 0 = gErr 5 := (if_neg (by simp [gp]; omega)).trans (if_pos hp)
theorem gb_err {E : Int} (hH : HHp F N p intra) (hf : fi = !intra) (hk : ∀ j, j < k → okG F N fi (hP p intra) j) (h1 : (gg F N fi (hP p intra) k).e = E) (h2 : E ≠ 0) : GB F N p intra E 0 0 0 := by
  subst hf
  rcases hH with hH | ⟨rfl, h0, hp⟩
  · refine .inr ⟨hH, k, ⟨hk, fun h => h2 (h1 ▸ h.1)⟩, .inl ⟨?_, ?_, rfl, rfl, rfl⟩⟩
    · unfold gE; rw [h1, if_pos h2]; exact h2
    · unfold gE; rw [h1, if_pos h2]
  · have e0 : gg F N true p 0 = gErr 5 := far_err hp h0
    have hk0 : k = 0 := by
      refine Classical.byContradiction fun hne => ?_
      have := (hk 0 (by omega)).1
      have : (gg F N true p 0).e = 0 := this
      rw [e0] at this
      exact absurd this (by decide)
    subst hk0
    have h1 : (gg F N true p 0).e = E := h1
    rw [e0] at h1
    have h1 : (5 : Int) = E := h1
    subst h1
    refine .inl ⟨?_, ?_, rfl, rfl, rfl⟩
    · unfold hE; rw [if_neg (by omega), if_pos hp]; decide
    · unfold hE; rw [if_neg (by omega), if_pos hp]
theorem hE_ok (hH : HHp F N p intra) (h1 : (gg F N (!intra) (hP p intra) 0).e = 0) : hE F N p intra = 0 := by
  rcases hH with hH | ⟨rfl, h0, hp⟩
  · exact hH
  · have e0 : gg F N true p 0 = gErr 5 := far_err hp h0
    have h1 : (gg F N true p 0).e = 0 := h1
    rw [e0] at h1
    exact absurd h1 (by decide)
theorem gb_run (hH : HHp F N p intra) (hf : fi = !intra) (hk : ∀ j, j < k → okG F N fi (hP p intra) j) (h1 : (gg F N fi (hP p intra) k).e = 0) (h2 : (gg F N fi (hP p intra) k).en = false) (h3 : 63 < pl F N fi (hP p intra) k + (gg F N fi (hP p intra) k).r) : GB F N p intra 11 0 0 0 := by
  subst hf
  have hz := hE_ok hH (by
    by_cases h : k = 0
    · subst h; exact h1
    · exact (hk 0 (by omega)).1)
  have e : gE F N (!intra) (hP p intra) k = 11 := by unfold gE; rw [if_neg (by rw [h1]; decide), if_neg (by rw [h2]; decide)]
  exact .inr ⟨hz, k, ⟨hk, fun h => by have := h.2.2; omega⟩, .inl ⟨by rw [e]; decide, e.symm, rfl, rfl, rfl⟩⟩
theorem gb_end (hH : HHp F N p intra) (hf : fi = !intra) (hk : ∀ j, j < k → okG F N fi (hP p intra) j) (h1 : (gg F N fi (hP p intra) k).e = 0) (h2 : (gg F N fi (hP p intra) k).en = true) : GB F N p intra 0 (hD F p intra) k (gp F N fi (hP p intra) (k + 1) - p) := by
  subst hf
  have hz := hE_ok hH (by
    by_cases h : k = 0
    · subst h; exact h1
    · exact (hk 0 (by omega)).1)
  have e : gE F N (!intra) (hP p intra) k = 0 := by unfold gE; rw [if_neg (by rw [h1]; decide), if_pos h2]
  exact .inr ⟨hz, k, ⟨hk, fun h => by have := h.2.1; rw [h2] at this; cases this⟩, .inr ⟨e, rfl, rfl, rfl, rfl⟩⟩
/-- what holds of the numbers in round k. -/
structure IG (F : Nat → Int) (N : Nat) (p : Int) (intra fi : Bool) (k : Nat) (b pp : Int) : Prop where
  hfi : fi = !intra
  hh : HHp F N p intra
  b : b = gp F N fi (hP p intra) k - p
  pp : pp = pl F N fi (hP p intra) k
  ok : ∀ j, j < k → okG F N fi (hP p intra) j
theorem IG.next {b pp : Int} (h : IG F N p intra fi k b pp) (h1 : (gg F N fi (hP p intra) k).e = 0) (h2 : (gg F N fi (hP p intra) k).en = false) (h3 : ¬ 63 < pp + (gg F N fi (hP p intra) k).r) : IG F N p intra fi (k + 1) (b + (gg F N fi (hP p intra) k).n) (pp + (gg F N fi (hP p intra) k).r + 1) :=
  ⟨h.hfi, h.hh, by rw [gp_succ, h.b]; omega, by rw [pl_succ, h.pp], fun j hj => by
    by_cases e : j = k
    · subst e; exact ⟨h1, h2, by rw [← h.pp]; omega⟩
    · exact h.ok j (by omega)⟩
theorem IG.place {b pp : Int} (h : IG F N p intra fi k b pp) (h0 : 0 ≤ p) (hN : N ≤ 1000000) (hp : p ≤ 9223372036854775807) (hp8 : intra = true → p + 8 ≤ 8 * (N : Int)) : gp F N fi (hP p intra) k = p + b ∧ 0 ≤ p + b ∧ p + b ≤ 9223372036854775807 ∧ 0 ≤ b ∧ b ≤ 1300 ∧ (k : Int) ≤ pp + 1 ∧ 0 ≤ pp ∧ pp ≤ 64 ∧ k ≤ 64 := by
  have h1 := h.b
  have h2 := gp_bd k h.ok
  have h3 := pl_bd k h.ok
  have h4 := ok_le h.ok
  have h5 : hP p intra ≤ p + 8 ∧ p ≤ hP p intra ∧ hP p intra ≤ 9223372036854775807 := by
    unfold hP
    cases intra
    · simp; omega
    · have := hp8 rfl
      simp; omega
  rw [← h.pp] at h3
  have h6 : p + b ≤ 9223372036854775807 := by
    by_cases hk : 0 < k
    · have := h2.2.2 hk; omega
    · obtain rfl : k = 0 := by omega
      have : gp F N fi (hP p intra) 0 = hP p intra := rfl
      omega
  omega
end
theorem GotB.err {F : Nat → Int} {N : Nat} {p E : Int} {intra : Bool} {w w' : World} (h : GB F N p intra E 0 0 0) (hb : Below w.heap.size w w') : GotB F N p intra w (.returned (.tuple #[bv 0 none 0 0, .int .i64 0, .int .i64 E])) w' :=
  ⟨E, 0, 0, 0, none, 0, h, rfl, ownP_nil _ _ _ _, hb⟩
theorem results_rblk {fn : Func} {p s t : Tmp} (hr : fn.results = #[.cell p 27, .tmp s, .tmp t]) (tmps : Array Value) {B : Nat} {V : World} {dc : Int} {q : Option Addr} {n c : Nat} {x y : Value}
    (hp : tmps.getD p undef = .pointer (some ⟨B, 0, none⟩)) (hs : tmps.getD s undef = x) (ht : tmps.getD t undef = y) (h : At V B #[.int .i64 dc, .slice q n c] 27) :
    (results fn tmps).run Tryz.prog V = .ok (.tuple #[bv dc q n c, x, y]) V := by
  have c0 := h.cell 0 _ rfl
  have c1 := h.cell 1 _ rfl
  have hp' : tmps[p]?.getD undef = .pointer (some ⟨B, 0, none⟩) := by simpa using hp
  have hs' : tmps[s]?.getD undef = x := by simpa using hs
  have ht' : tmps[t]?.getD undef = y := by simpa using ht
  simp at c0 c1
  simp [results, hr, hp', hs', ht', asAddr, loadVar, go_sem, c0, c1, Tryz.underlying27, Tryz.underlying25, Tryz.underlying3]
/-- the two blocks of the document's Get. -/
structure RB (w : World) (dc : Int) (q : Option Addr) (k c : Nat) (r l : Nat → Int) (V : World) : Prop where
  z : At V w.heap.size #[.int .i64 0, .slice none 0 0] 27
  x : At V (w.heap.size + 1) #[.int .i64 dc, .slice q k c] 27
  o : OwnP V (w.heap.size + 2) (.slice q k c) k r l
  b : Below w.heap.size w V
theorem OwnP.below {w w' : World} {B : Nat} {v : Value} {n : Nat} {r l : Nat → Int} (h : OwnP w B v n r l) (hb : Below w.heap.size w w') : OwnP w' B v n r l := h.kept (grown_of_below hb none) (by
    by_cases h0 : v.ownBlock = none
    · exact .inl h0
    · exact .inr h0)
theorem RB.below {w : World} {dc : Int} {q : Option Addr} {k c : Nat} {r l : Nat → Int} {V V' : World} (h : RB w dc q k c r l V) (hb : Below V.heap.size V V') : RB w dc q k c r l V' := ⟨h.z.below hb, h.x.below hb, h.o.below hb, chain h.b hb⟩
theorem RB.new (w : World) (dc : Int) (r l : Nat → Int) : RB w dc none 0 0 r l ((w.alloc (.cells #[.int .i64 0, .slice none 0 0] 27)).alloc (.cells #[.int .i64 dc, .slice none 0 0] 27)) := by
  have h1 := At.new w #[.int .i64 0, .slice none 0 0] 27
  have h2 := At.new (w.alloc (.cells #[.int .i64 0, .slice none 0 0] 27)) #[.int .i64 dc, .slice none 0 0] 27
  rw [World.size_alloc] at h2
  exact ⟨h1.below ((Below.refl _ _).alloc (Nat.le_refl _) _), h2, ownP_nil _ _ _ _, ((Below.refl w.heap.size w).alloc (Nat.le_refl _) _).alloc (by simp) _⟩
section
set_option maxRecDepth 100000
set_option maxHeartbeats 8000000
theorem rRead_high (a : Option Addr) (N c : Nat) (p : Int) (n : Nat) (w : World) (hN : N ≤ 1000000) (hn : n ≤ 32) (h : 8 * (N : Int) < p) :
    Calls Tryz.prog 39 #[.slice a N c, .int .i64 p, .int .i64 n] w fun e w' => e = .returned (.tuple #[.int .i64 0, .int .i64 5]) ∧ w = w' := by
  have HC := Lib.hid (fun V => rCount_any a N c V hN)
  have p0 : ¬ p < 0 := by omega
  have n0 : ¬ (n : Int) < 0 := by omega
  have n1 : ¬ (32 : Int) < (n : Int) := by omega
  go_enter Tryz.func39, Tryz.ntmps39
  go_wp2_with (go_at_call 64; refine (HC.out _).mono ?_; rintro e w1 ⟨rfl, rfl⟩)
  go_ret2
  exact ⟨rfl, rfl⟩
/-- a place that is none. -/
theorem rGet12_low (v : Value) (N : Nat) (F : Nat → Int) (p : Int) (intra : Bool) (w : World) (hp : p < 0) :
    Calls Tryz.prog 13 #[v, .int .i64 p, .bool intra] w (GotB F N p intra w) := by
  have hG : GB F N p intra 3 0 0 0 := .inl ⟨by unfold hE; rw [if_pos hp]; decide, by unfold hE; rw [if_pos hp], rfl, rfl, rfl⟩
  have HG := Lib.hid hG
  have H0 := At.new w #[.int .i64 0, .slice none 0 0] 27
  have x0 := frozen_of_row H0 0
  have x1 := frozen_of_row H0 1
  have HA := Lib.hid H0
  clear H0 hG
  go_enter Tryz.func13, Tryz.ntmps13
  go_wp2_with fail
  refine bodyPost_ret (results_rblk rfl _ rfl rfl rfl HA.out) rfl ?_
  exact GotB.err HG.out ((Below.refl w.heap.size w).alloc (Nat.le_refl _) _)
end
end Dk
end Go.Proofs.YtpibeocngkjolaaGreatDoor

namespace Go.Proofs.YtpibeocngkjolaaGreatDoor
open Go.RowKit Go.Shelf
set_option linter.unusedSimpArgs false
set_option linter.unusedVariables false
namespace Dk
open Cf Bk Sc
theorem pcs_next (r l : Nat → Int) (k : Nat) : pcs r l (k + 1) = pcs r l k ++ [.int .i64 (r k), .int .i64 (l k)] := rfl
theorem RB.push {w : World} {dc : Int} {q : Option Addr} {k c : Nat} {r l : Nat → Int} {V W5 : World} {o : Obj} {v5 : Value} (h : RB w dc q k c r l V) (h5 : W5.ownsRow (w.heap.size + 2) 69 2 v5 (k + 1) (pcs r l (k + 1))) (hg : (V.alloc o).grownBy W5 (Value.slice q k c).ownBlock) :
    ∃ q' c', v5 = .slice q' (k + 1) c' ∧ RB w dc q' (k + 1) c' r l (W5.setCell ⟨w.heap.size + 1, 1, none⟩ (.slice q' (k + 1) c')) ∧ At W5 (w.heap.size + 1) #[.int .i64 dc, .slice q k c] 27 := by
  have h5' : OwnP W5 (w.heap.size + 2) v5 (k + 1) r l := h5
  obtain ⟨q', c', rfl⟩ := h5'.form
  have z := h.b.size
  have hx := h.x.lt
  have b5 : Below w.heap.size w W5 := (h.b.alloc z o).grown hg (by simp; omega) (fun q hq => Nat.le_trans (by omega) (h.o.lt q hq).1)
  have ne : ∀ b, b < w.heap.size + 2 → some b ≠ (Value.slice q k c).ownBlock := fun b hb e => by have := (h.o.lt b e.symm).1; omega
  have za := (h.z.below ((Below.refl _ _).alloc (Nat.le_refl _) o)).kept hg (ne _ (by omega))
  have xa := (h.x.below ((Below.refl _ _).alloc (Nat.le_refl _) o)).kept hg (ne _ (by omega))
  have g2 := grown_cell2 W5 (w.heap.size + 1) 1 (.slice q' (k + 1) c')
  refine ⟨q', c', rfl, ⟨za.kept g2 (by simp), ob_set xa 1 (.slice q' (k + 1) c'), OwnP.keep h5' g2 (by omega), b5.grown g2 b5.size (fun q e => by have := Option.some.inj e; omega)⟩, xa⟩
theorem RB.wr {w : World} {dc : Int} {q : Option Addr} {k c : Nat} {r l : Nat → Int} {V : World} (h : RB w dc q k c r l V) (d : Int) (q' : Option Addr) (n' c' : Nat) :
    At ((V.setCell ⟨w.heap.size, 0, none⟩ (.int .i64 d)).setCell ⟨w.heap.size, 1, none⟩ (.slice q' n' c')) w.heap.size #[.int .i64 d, .slice q' n' c'] 27 ∧
    Below w.heap.size w ((V.setCell ⟨w.heap.size, 0, none⟩ (.int .i64 d)).setCell ⟨w.heap.size, 1, none⟩ (.slice q' n' c')) ∧
    OwnP ((V.setCell ⟨w.heap.size, 0, none⟩ (.int .i64 d)).setCell ⟨w.heap.size, 1, none⟩ (.slice q' n' c')) w.heap.size (.slice q k c) k r l :=
  ⟨ob_set (ob_set h.z 0 (.int .i64 d)) 1 (.slice q' n' c'), (h.b.setCell (p := ⟨w.heap.size, 0, none⟩) (Nat.le_refl _) _).setCell (p := ⟨w.heap.size, 1, none⟩) (Nat.le_refl _) _,
    own_mono (OwnP.keep h.o (grown_set (grown_cell2 V w.heap.size 0 (.int .i64 d)) 1 (.slice q' n' c')) (by omega)) (by omega)⟩
section
set_option maxRecDepth 100000
set_option maxHeartbeats 16000000
theorem rGet12_inter (va : Option Addr) (vc : Nat) (N : Nat) (F : Nat → Int) (p : Int) (w : World) (hN : N ≤ 1000000) (hs : Sl .u8 w (.slice va N vc) N F) (hb : ∀ j, j < N → 0 ≤ F j ∧ F j ≤ 255) (hp0 : 0 ≤ p) (hp : p ≤ 9223372036854775807) :
    Calls Tryz.prog 13 #[.slice va N vc, .int .i64 p, .bool false] w (GotB F N p false w) := by
  obtain ⟨i0, hi, hz0, hz1, hz2⟩ := info_parts info_pair
  have HS := Lib.hid hs
  have HBY := Lib.hid hb
  have HHP : HHp F N p false := by
    by_cases h : 8 * (N : Int) < p
    · exact .inr ⟨rfl, hp0, h⟩
    · refine .inl ?_
      unfold hE
      rw [if_neg (by omega), if_neg h, if_pos rfl]
  have HR0 := Lib.hid (RB.new w 0 (fun j => (gg F N true (hP p false) j).r) (fun j => (gg F N true (hP p false) j).l))
  have hp1 : ¬ p < 0 := by omega
  have HP0 : Hid (IG F N p false true 0 0 0) := Lib.hid ⟨rfl, HHP, by show 0 = p - p; omega, rfl, fun j hj => by omega⟩
  clear hs hb HHP
  go_enter Tryz.func13, Tryz.ntmps13
  go_wp2_with (go_at_call 38; refine (rfirst_any _ _).mono ?_; rintro e w1 ⟨rfl, rfl⟩)
  go_loopg [10, 11] 65 (fun m u v2 wr => ∃ (k : Nat) (bb pp : Int) (q : Option Addr) (cc : Nat), m + k = 65 ∧ u = .int .i64 bb ∧ v2 = .int .i64 pp ∧ Hid (IG F N p false true k bb pp) ∧ Hid (RB w 0 q k cc (fun j => (gg F N true (hP p false) j).r) (fun j => (gg F N true (hP p false) j).l) wr))
  case atStart => exact ⟨0, _, _, none, 0, by omega, rfl, rfl, HP0, HR0⟩
  case round =>
    obtain ⟨k, bb, pp, q, cc, hm, rfl, rfl, HI, HR⟩ := hrel
    clear HP0 HR0
    obtain ⟨hG, hG0, hG1, hb0, hb1, _, hpp0, hpp1, hk64⟩ := HI.out.place hp0 hN hp (fun h => by cases h)
    have hgc := gg_cases (F := F) (N := N) (fi := true) (p0 := hP p false) k
    have HERR := Lib.hid (fun E => gb_err (E := E) HI.out.hh HI.out.hfi HI.out.ok)
    have HRUN := Lib.hid (gb_run HI.out.hh HI.out.hfi HI.out.ok)
    have HEND := Lib.hid (gb_end HI.out.hh HI.out.hfi HI.out.ok)
    have HNEXT := Lib.hid HI.out.next
    rw [← HI.out.pp] at HRUN
    rw [gp_succ, hG] at HEND
    skip
    have HGET : Hid (∀ W, Below w.heap.size w W → Calls Tryz.prog 41 #[.slice va N vc, .int .i64 (p + bb), .bool (true && decide (k = 0))] W fun e w' => e = .returned (gg F N true (hP p false) k).val ∧ Below W.heap.size W w') := Lib.hid (fun W hW => by
      rw [← hG]
      exact rGet_any _ N F _ _ W hN (HS.out.below hW) HBY.out (by rw [hG]; exact hG1))
    obtain ⟨G, hpg⟩ : ∃ G, p + bb = G := ⟨_, rfl⟩
    rw [hpg] at HGET hG0 hG1
    rw [hG, hpg] at hgc
    have ew : wrap64 (p + bb) = G := by rw [hpg]; exact w64 (by omega)
    have HPC := Lib.hid (pcs_next (fun j => (gg F N true (hP p false) j).r) (fun j => (gg F N true (hP p false) j).l) k)
    have g1 := HR.out.x.cell 1 _ rfl
    generalize hgv : gg F N true (hP p false) k = gv at hgc HERR HRUN HEND HNEXT HGET HPC
    clear hgv
    obtain ⟨gr, gl, gen, gn, ge⟩ := gv
    unfold G5.val prV at HGET
    dsimp only at hgc HERR HRUN HEND HNEXT HGET HPC
    obtain ⟨fb, hfb⟩ : ∃ b : Bool, decide (k = 0) = b := ⟨_, rfl⟩
    have hk0 : ((k : Int) == 0) = fb := by rw [← hfb]; by_cases h : k = 0 <;> simp [h]
    rw [hfb] at HGET
    have hpg2 := hpg
    clear hfb hG
    rcases hgc with ⟨e5, he5, hee⟩ | ⟨he0, _, hGok⟩
    · have hne : (ge != 0) = true := by
        have : ge = e5 := congrArg G5.e he5
        simp; omega
      have hne2 : ge ≠ 0 := by simpa using hne
      have HBAD := Lib.hid (HERR.out ge rfl hne2)
      clear he5 hee hne2 HERR HRUN HEND HNEXT hpg hpg2
      cases fb
      all_goals
        try simp only [Bool.false_and, Bool.true_and] at HGET
        go_upto_region 14 with (go_at_call 41; refine (HGET.out _ HR.out.b).mono ?_; rintro e w3 ⟨rfl, hb⟩; have HR2 := Lib.hid (HR.out.below hb); clear hb g1)
        have HR3 := Lib.hid (HR2.out.below ((Below.refl _ _).alloc (Nat.le_refl _) (.cells #[.int .i64 gr, .int .i64 gl] 69)))
        have y0 := cell_row (heap_alloc_new w3 (.cells #[.int .i64 gr, .int .i64 gl] 69)) (i := 0) rfl
        have y1 := cell_row (heap_alloc_new w3 (.cells #[.int .i64 gr, .int .i64 gl] 69)) (i := 1) rfl
        generalize w3.alloc (.cells #[.int .i64 gr, .int .i64 gl] 69) = W3 at *
        generalize w3.heap.size = PB at *
        clear HR2
        have f0 := frozen_of_row HR3.out.z 0
        have f1 := frozen_of_row HR3.out.z 1
        have d0 := HR3.out.z.cell 0 _ rfl
        have d1 := HR3.out.z.cell 1 _ rfl
        go_wp2_with fail
        have HW := HR3.out.wr 0 none 0 0
        refine bodyPost_ret (results_rblk rfl _ rfl rfl rfl HW.1) rfl ?_
        exact GotB.err HBAD.out HW.2.1
    · obtain ⟨hn2, hn20, hfit, hr0, hr63, hpr, hfi⟩ := hGok
      dsimp only at hn2 hn20 hfit hr0 hr63 hpr hfi
      subst he0
      have ew2 : wrap64 (bb + gn) = bb + gn := w64 (by omega)
      cases gen with
      | true =>
        have HFIN := Lib.hid (HEND.out rfl rfl)
        have ebb : p + bb + gn - p = bb + gn := by omega
        rw [ebb] at HFIN
        clear hpr hfi HERR HRUN HEND HNEXT hpg hpg2 ebb
        cases fb
        all_goals
          try simp only [Bool.false_and, Bool.true_and] at HGET
          go_upto_region 14 with (go_at_call 41; refine (HGET.out _ HR.out.b).mono ?_; rintro e w3 ⟨rfl, hb⟩; have HR2 := Lib.hid (HR.out.below hb); clear hb g1)
          have HR3 := Lib.hid (HR2.out.below ((Below.refl _ _).alloc (Nat.le_refl _) (.cells #[.int .i64 gr, .int .i64 gl] 69)))
          have y0 := cell_row (heap_alloc_new w3 (.cells #[.int .i64 gr, .int .i64 gl] 69)) (i := 0) rfl
          have y1 := cell_row (heap_alloc_new w3 (.cells #[.int .i64 gr, .int .i64 gl] 69)) (i := 1) rfl
          generalize w3.alloc (.cells #[.int .i64 gr, .int .i64 gl] 69) = W3 at *
          generalize w3.heap.size = PB at *
          clear HR2
          have f0 := frozen_of_row HR3.out.z 0
          have f1 := frozen_of_row HR3.out.z 1
          have d0 := HR3.out.z.cell 0 _ rfl
          have d1 := HR3.out.z.cell 1 _ rfl
          have j0 := HR3.out.x.cell 0 _ rfl
          have j1 := HR3.out.x.cell 1 _ rfl
          go_wp2_with fail
          have HW := HR3.out.wr 0 q k cc
          refine bodyPost_ret (results_rblk rfl _ rfl rfl rfl HW.1) rfl ?_
          exact ⟨0, 0, _, k, q, cc, HFIN.out, rfl, HW.2.2, HW.2.1⟩
      | false =>
        by_cases hrun : 63 < pp + gr
        · have HBAD := Lib.hid (HRUN.out rfl rfl hrun)
          clear hpr hfi HERR HRUN HEND HNEXT hpg hpg2
          have e3 : wrap64 (pp + gr) = pp + gr := w64 (by omega)
          cases fb
          all_goals
            try simp only [Bool.false_and, Bool.true_and] at HGET
            go_upto_region 14 with (go_at_call 41; refine (HGET.out _ HR.out.b).mono ?_; rintro e w3 ⟨rfl, hb⟩; have HR2 := Lib.hid (HR.out.below hb); clear hb g1)
            have HR3 := Lib.hid (HR2.out.below ((Below.refl _ _).alloc (Nat.le_refl _) (.cells #[.int .i64 gr, .int .i64 gl] 69)))
            have y0 := cell_row (heap_alloc_new w3 (.cells #[.int .i64 gr, .int .i64 gl] 69)) (i := 0) rfl
            have y1 := cell_row (heap_alloc_new w3 (.cells #[.int .i64 gr, .int .i64 gl] 69)) (i := 1) rfl
            generalize w3.alloc (.cells #[.int .i64 gr, .int .i64 gl] 69) = W3 at *
            generalize w3.heap.size = PB at *
            clear HR2
            have f0 := frozen_of_row HR3.out.z 0
            have f1 := frozen_of_row HR3.out.z 1
            have d0 := HR3.out.z.cell 0 _ rfl
            have d1 := HR3.out.z.cell 1 _ rfl
            go_wp2_with fail
            have HW := HR3.out.wr 0 none 0 0
            refine bodyPost_ret (results_rblk rfl _ rfl rfl rfl HW.1) rfl ?_
            exact GotB.err HBAD.out HW.2.1
        · have HN2 := Lib.hid (HNEXT.out rfl rfl hrun)
          clear hpr hfi HERR HRUN HEND HNEXT hpg hpg2
          have e3 : wrap64 (pp + gr) = pp + gr := w64 (by omega)
          have e4 : wrap64 (pp + gr + 1) = pp + gr + 1 := w64 (by omega)
          cases fb
          all_goals
            try simp only [Bool.false_and, Bool.true_and] at HGET
            go_upto_region 14 with (go_at_call 41; refine (HGET.out _ HR.out.b).mono ?_; rintro e w3 ⟨rfl, hb⟩; have HR2 := Lib.hid (HR.out.below hb); clear hb g1)
            have HR3 := Lib.hid (HR2.out.below ((Below.refl _ _).alloc (Nat.le_refl _) (.cells #[.int .i64 gr, .int .i64 gl] 69)))
            have y0 := cell_row (heap_alloc_new w3 (.cells #[.int .i64 gr, .int .i64 gl] 69)) (i := 0) rfl
            have y1 := cell_row (heap_alloc_new w3 (.cells #[.int .i64 gr, .int .i64 gl] 69)) (i := 1) rfl
            generalize w3.alloc (.cells #[.int .i64 gr, .int .i64 gl] 69) = W3 at *
            generalize w3.heap.size = PB at *
            clear HR2
            have j1 := HR3.out.x.cell 1 _ rfl
            have z3 := HR3.out.b.size
            have zz := HR3.out.x.lt
            have hn64 : k ≤ 64 := hk64
            go_wp2_with (at_builtin; go_loud (refine wpList_append_own _ rfl (.tmp 80) (.tmp 82) 25 rfl (w.heap.size + 2) 69 i0 (.agg #[.int .i64 0, .int .i64 0]) 2 16 Tryz.underlying25 hi hz0 hz1 hz2 rfl (by decide) _ _ _ rfl (HR3.out.o.alloc _) ⟨_, 0, none⟩ 1 1 [.int .i64 gr, .int .i64 gl] rfl rfl (World.news_of_block (cs := #[.int .i64 gr, .int .i64 gl]) (t := 69) (fr := (0, 0)) (heap_alloc_new _ _)) (by simp [Value.oneCell']) (by unfold maxLen; omega) (by omega) (by simp at *; omega) ?_; intro v5 w5 own5 gr5 _; rw [← HPC.out] at own5; have HX := HR3.out.push own5 gr5; clear own5 gr5; obtain ⟨q', c', rfl, HR5, hx5⟩ := HX; have HR5 := Lib.hid HR5; have f1 := frozen_of_row hx5 1; have c5 := hx5.cell 1 _ rfl; clear hx5))
            go_roundg (gk - 1)
            case measure => omega
            case rel => exact ⟨k + 1, _, _, q', c', by omega, rfl, rfl, HN2, HR5⟩
end
end Dk
end Go.Proofs.YtpibeocngkjolaaGreatDoor

namespace Go.Proofs.YtpibeocngkjolaaGreatDoor
open Go.RowKit Go.Shelf
set_option linter.unusedSimpArgs false
set_option linter.unusedVariables false
namespace Dk
open Cf Bk Sc
section
set_option maxRecDepth 100000
set_option maxHeartbeats 16000000
theorem rGet12_intra (va : Option Addr) (vc : Nat) (N : Nat) (F : Nat → Int) (p : Int) (w : World) (hN : N ≤ 1000000) (hs : Sl .u8 w (.slice va N vc) N F) (hb : ∀ j, j < N → 0 ≤ F j ∧ F j ≤ 255) (hp0 : 0 ≤ p) (hp : p ≤ 9223372036854775807) :
    Calls Tryz.prog 13 #[.slice va N vc, .int .i64 p, .bool true] w (GotB F N p true w) := by
  obtain ⟨i0, hi, hz0, hz1, hz2⟩ := info_parts info_pair
  have HS := Lib.hid hs
  have HBY := Lib.hid hb
  have hp1 : ¬ p < 0 := by omega
  have H0 := At.new w #[.int .i64 0, .slice none 0 0] 27
  have H0' := H0.below ((Below.refl _ _).alloc (Nat.le_refl _) (.cells #[.int .i64 0, .slice none 0 0] 27))
  have HA := Lib.hid H0'
  have HB2 := Lib.hid (((Below.refl w.heap.size w).alloc (Nat.le_refl _) (.cells #[.int .i64 0, .slice none 0 0] 27)).alloc (by simp) (.cells #[.int .i64 0, .slice none 0 0] 27))
  have x0 := frozen_of_row H0' 0
  have x1 := frozen_of_row H0' 1
  have x2 := H0'.cell 0 _ rfl
  have x3 := H0'.cell 1 _ rfl
  clear H0 H0'
  by_cases h8 : 8 * (N : Int) < p + 8
  · have HG : Hid (GB F N p true 5 0 0 0) := Lib.hid (by
      by_cases h : 8 * (N : Int) < p
      · refine .inl ⟨?_, ?_, rfl, rfl, rfl⟩ <;> (unfold hE; rw [if_neg hp1, if_pos h]) <;> decide
      · refine .inl ⟨?_, ?_, rfl, rfl, rfl⟩ <;> (unfold hE; rw [if_neg hp1, if_neg h, if_neg (by decide), if_pos h8]) <;> decide)
    have HRD : Hid (∀ W, Below w.heap.size w W → Calls Tryz.prog 39 #[.slice va N vc, .int .i64 p, .int .i64 8] W fun e w' => e = .returned (.tuple #[.int .i64 0, .int .i64 5]) ∧ W = w') := Lib.hid fun W hW => by
      by_cases h : 8 * (N : Int) < p
      · exact rRead_high va N vc p 8 W hN (by decide) h
      · have := rRead_no (.slice va N vc) N p.toNat 8 W hN ⟨va, vc, rfl⟩ (by decide) (by omega) (by omega)
        rwa [show ((p.toNat : Nat) : Int) = p by omega] at this
    clear hs hb h8
    go_enter Tryz.func13, Tryz.ntmps13
    go_wp2_with (first
      | (go_at_call 38; refine (rfirst_any _ _).mono ?_; rintro e w1 ⟨rfl, rfl⟩)
      | (go_at_call 39; refine (HRD.out _ HB2.out).mono ?_; rintro e w1 ⟨rfl, rfl⟩))
    refine bodyPost_ret (results_rblk rfl _ rfl rfl rfl HA.out) rfl ?_
    exact GotB.err HG.out HB2.out
  have hp8n : p + 8 ≤ 8 * (N : Int) := by omega
  have HRD : Hid (∀ W, Below w.heap.size w W → Calls Tryz.prog 39 #[.slice va N vc, .int .i64 p, .int .i64 8] W fun e w' => e = .returned (.tuple #[.int .i64 (rdV F p.toNat 8), .int .i64 0]) ∧ W = w') := Lib.hid fun W hW => by
    have := rRead_ok (.slice va N vc) N F p.toNat 8 W hN (hs.below hW) hb (by decide) (by omega)
    rwa [show ((p.toNat : Nat) : Int) = p by omega] at this
  have hv := rdV_bd F p.toNat 8
  have hv2 : 0 ≤ rdV F p.toNat 8 ∧ rdV F p.toNat 8 < 256 := hv
  have HHE : hE F N p true = if rdV F p.toNat 8 = 0 ∨ rdV F p.toNat 8 = 128 then 10 else 0 := by unfold hE; rw [if_neg hp1, if_neg (by omega), if_neg (by decide), if_neg h8]
  have HDC : hD F p true = rdV F p.toNat 8 := rfl
  obtain ⟨dc, hdc⟩ : ∃ x, rdV F p.toNat 8 = x := ⟨_, rfl⟩
  rw [hdc] at HRD hv2 HHE HDC
  have HCD := Lib.hid (fun V => Bk.rcode_any dc V)
  clear hv hdc h8 hs hb
  by_cases hbad : dc = 0 ∨ dc = 128
  · have HG : Hid (GB F N p true 10 0 0 0) := Lib.hid (by
      rw [if_pos hbad] at HHE
      exact .inl ⟨by rw [HHE]; decide, HHE.symm, rfl, rfl, rfl⟩)
    have hcd : (decide (1 ≤ dc) && decide (dc ≤ 255) && (dc != 128)) = false := by rcases hbad with rfl | rfl <;> rfl
    rw [hcd] at HCD
    clear hbad HHE hcd HDC
    go_enter Tryz.func13, Tryz.ntmps13
    go_wp2_with (first
      | (go_at_call 38; refine (rfirst_any _ _).mono ?_; rintro e w1 ⟨rfl, rfl⟩)
      | (go_at_call 40; refine (HCD.out _).mono ?_; rintro e w1 ⟨rfl, rfl⟩)
      | (go_at_call 39; refine (HRD.out _ HB2.out).mono ?_; rintro e w1 ⟨rfl, rfl⟩))
    refine bodyPost_ret (results_rblk rfl _ rfl rfl rfl HA.out) rfl ?_
    exact GotB.err HG.out HB2.out
  rw [if_neg hbad] at HHE
  have hcd : (decide (1 ≤ dc) && decide (dc ≤ 255) && (dc != 128)) = true := by
    have h1 : (1 : Int) ≤ dc := by omega
    have h2 : dc ≤ 255 := by omega
    have h3 : dc ≠ 128 := by omega
    simp [h1, h2, h3]
  rw [hcd] at HCD
  have HP0 : Hid (IG F N p true false 0 8 1) := Lib.hid ⟨rfl, .inl HHE, by show 8 = p + 8 - p; omega, rfl, fun j hj => by omega⟩
  have HR0 := Lib.hid (RB.new w dc (fun j => (gg F N false (hP p true) j).r) (fun j => (gg F N false (hP p true) j).l))
  have HDCH := Lib.hid HDC
  clear HDC hbad HHE hcd hv2 HA x0 x1 x2 x3
  go_enter Tryz.func13, Tryz.ntmps13
  go_wp2_with (first
    | (go_at_call 38; refine (rfirst_any _ _).mono ?_; rintro e w1 ⟨rfl, rfl⟩)
    | (go_at_call 40; refine (HCD.out _).mono ?_; rintro e w1 ⟨rfl, rfl⟩)
    | (go_at_call 39; refine (HRD.out _ HB2.out).mono ?_; rintro e w1 ⟨rfl, rfl⟩))
  go_loopg [10, 11] 65 (fun m u v2 wr => ∃ (k : Nat) (bb pp : Int) (q : Option Addr) (cc : Nat), m + k = 65 ∧ u = .int .i64 bb ∧ v2 = .int .i64 pp ∧ Hid (IG F N p true false k bb pp) ∧ Hid (RB w dc q k cc (fun j => (gg F N false (hP p true) j).r) (fun j => (gg F N false (hP p true) j).l) wr))
  case atStart => exact ⟨0, _, _, none, 0, by omega, rfl, rfl, HP0, HR0⟩
  case round =>
    obtain ⟨k, bb, pp, q, cc, hm, rfl, rfl, HI, HR⟩ := hrel
    clear HP0 HR0
    obtain ⟨hG, hG0, hG1, hb0, hb1, _, hpp0, hpp1, hk64⟩ := HI.out.place hp0 hN hp (fun _ => hp8n)
    have hgc := gg_cases (F := F) (N := N) (fi := false) (p0 := hP p true) k
    have HERR := Lib.hid (fun E => gb_err (E := E) HI.out.hh HI.out.hfi HI.out.ok)
    have HRUN := Lib.hid (gb_run HI.out.hh HI.out.hfi HI.out.ok)
    have HEND := Lib.hid (gb_end HI.out.hh HI.out.hfi HI.out.ok)
    have HNEXT := Lib.hid HI.out.next
    rw [← HI.out.pp] at HRUN
    rw [gp_succ, hG] at HEND
    rw [HDCH.out] at HEND
    have HGET : Hid (∀ W, Below w.heap.size w W → Calls Tryz.prog 41 #[.slice va N vc, .int .i64 (p + bb), .bool (false && decide (k = 0))] W fun e w' => e = .returned (gg F N false (hP p true) k).val ∧ Below W.heap.size W w') := Lib.hid (fun W hW => by
      rw [← hG]
      exact rGet_any _ N F _ _ W hN (HS.out.below hW) HBY.out (by rw [hG]; exact hG1))
    obtain ⟨G, hpg⟩ : ∃ G, p + bb = G := ⟨_, rfl⟩
    rw [hpg] at HGET hG0 hG1
    rw [hG, hpg] at hgc
    have ew : wrap64 (p + bb) = G := by rw [hpg]; exact w64 (by omega)
    have HPC := Lib.hid (pcs_next (fun j => (gg F N false (hP p true) j).r) (fun j => (gg F N false (hP p true) j).l) k)
    have g1 := HR.out.x.cell 1 _ rfl
    generalize hgv : gg F N false (hP p true) k = gv at hgc HERR HRUN HEND HNEXT HGET HPC
    clear hgv
    obtain ⟨gr, gl, gen, gn, ge⟩ := gv
    unfold G5.val prV at HGET
    dsimp only at hgc HERR HRUN HEND HNEXT HGET HPC
    obtain ⟨fb, hfb⟩ : ∃ b : Bool, decide (k = 0) = b := ⟨_, rfl⟩
    have hk0 : ((k : Int) == 0) = fb := by rw [← hfb]; by_cases h : k = 0 <;> simp [h]
    rw [hfb] at HGET
    have hpg2 := hpg
    clear hfb hG
    rcases hgc with ⟨e5, he5, hee⟩ | ⟨he0, _, hGok⟩
    · have hne : (ge != 0) = true := by
        have : ge = e5 := congrArg G5.e he5
        simp; omega
      have hne2 : ge ≠ 0 := by simpa using hne
      have HBAD := Lib.hid (HERR.out ge rfl hne2)
      clear he5 hee hne2 HERR HRUN HEND HNEXT hpg2
      cases fb
      all_goals
        try simp only [Bool.false_and, Bool.true_and] at HGET
        go_upto_region 14 with (go_at_call 41; refine (HGET.out _ HR.out.b).mono ?_; rintro e w3 ⟨rfl, hb⟩; have HR2 := Lib.hid (HR.out.below hb); clear hb g1)
        have HR3 := Lib.hid (HR2.out.below ((Below.refl _ _).alloc (Nat.le_refl _) (.cells #[.int .i64 gr, .int .i64 gl] 69)))
        have y0 := cell_row (heap_alloc_new w3 (.cells #[.int .i64 gr, .int .i64 gl] 69)) (i := 0) rfl
        have y1 := cell_row (heap_alloc_new w3 (.cells #[.int .i64 gr, .int .i64 gl] 69)) (i := 1) rfl
        generalize w3.alloc (.cells #[.int .i64 gr, .int .i64 gl] 69) = W3 at *
        generalize w3.heap.size = PB at *
        clear HR2
        have f0 := frozen_of_row HR3.out.z 0
        have f1 := frozen_of_row HR3.out.z 1
        have d0 := HR3.out.z.cell 0 _ rfl
        have d1 := HR3.out.z.cell 1 _ rfl
        go_wp2_with fail
        have HW := HR3.out.wr 0 none 0 0
        refine bodyPost_ret (results_rblk rfl _ rfl rfl rfl HW.1) rfl ?_
        exact GotB.err HBAD.out HW.2.1
    · obtain ⟨hn2, hn20, hfit, hr0, hr63, hpr, hfi⟩ := hGok
      dsimp only at hn2 hn20 hfit hr0 hr63 hpr hfi
      subst he0
      have ew2 : wrap64 (bb + gn) = bb + gn := w64 (by omega)
      cases gen with
      | true =>
        have HFIN := Lib.hid (HEND.out rfl rfl)
        have ebb : p + bb + gn - p = bb + gn := by omega
        rw [ebb] at HFIN
        clear hpr hfi HERR HRUN HEND HNEXT hpg2 ebb
        cases fb
        all_goals
          try simp only [Bool.false_and, Bool.true_and] at HGET
          go_upto_region 14 with (go_at_call 41; refine (HGET.out _ HR.out.b).mono ?_; rintro e w3 ⟨rfl, hb⟩; have HR2 := Lib.hid (HR.out.below hb); clear hb g1)
          have HR3 := Lib.hid (HR2.out.below ((Below.refl _ _).alloc (Nat.le_refl _) (.cells #[.int .i64 gr, .int .i64 gl] 69)))
          have y0 := cell_row (heap_alloc_new w3 (.cells #[.int .i64 gr, .int .i64 gl] 69)) (i := 0) rfl
          have y1 := cell_row (heap_alloc_new w3 (.cells #[.int .i64 gr, .int .i64 gl] 69)) (i := 1) rfl
          generalize w3.alloc (.cells #[.int .i64 gr, .int .i64 gl] 69) = W3 at *
          generalize w3.heap.size = PB at *
          clear HR2
          have f0 := frozen_of_row HR3.out.z 0
          have f1 := frozen_of_row HR3.out.z 1
          have d0 := HR3.out.z.cell 0 _ rfl
          have d1 := HR3.out.z.cell 1 _ rfl
          have j0 := HR3.out.x.cell 0 _ rfl
          have j1 := HR3.out.x.cell 1 _ rfl
          go_wp2_with fail
          have HW := HR3.out.wr dc q k cc
          refine bodyPost_ret (results_rblk rfl _ rfl rfl rfl HW.1) rfl ?_
          exact ⟨0, dc, _, k, q, cc, HFIN.out, rfl, HW.2.2, HW.2.1⟩
      | false =>
        by_cases hrun : 63 < pp + gr
        · have HBAD := Lib.hid (HRUN.out rfl rfl hrun)
          clear hpr hfi HERR HRUN HEND HNEXT hpg2
          have e3 : wrap64 (pp + gr) = pp + gr := w64 (by omega)
          cases fb
          all_goals
            try simp only [Bool.false_and, Bool.true_and] at HGET
            go_upto_region 14 with (go_at_call 41; refine (HGET.out _ HR.out.b).mono ?_; rintro e w3 ⟨rfl, hb⟩; have HR2 := Lib.hid (HR.out.below hb); clear hb g1)
            have HR3 := Lib.hid (HR2.out.below ((Below.refl _ _).alloc (Nat.le_refl _) (.cells #[.int .i64 gr, .int .i64 gl] 69)))
            have y0 := cell_row (heap_alloc_new w3 (.cells #[.int .i64 gr, .int .i64 gl] 69)) (i := 0) rfl
            have y1 := cell_row (heap_alloc_new w3 (.cells #[.int .i64 gr, .int .i64 gl] 69)) (i := 1) rfl
            generalize w3.alloc (.cells #[.int .i64 gr, .int .i64 gl] 69) = W3 at *
            generalize w3.heap.size = PB at *
            clear HR2
            have f0 := frozen_of_row HR3.out.z 0
            have f1 := frozen_of_row HR3.out.z 1
            have d0 := HR3.out.z.cell 0 _ rfl
            have d1 := HR3.out.z.cell 1 _ rfl
            go_wp2_with fail
            have HW := HR3.out.wr 0 none 0 0
            refine bodyPost_ret (results_rblk rfl _ rfl rfl rfl HW.1) rfl ?_
            exact GotB.err HBAD.out HW.2.1
        · have HN2 := Lib.hid (HNEXT.out rfl rfl hrun)
          clear hpr hfi HERR HRUN HEND HNEXT hpg2
          have e3 : wrap64 (pp + gr) = pp + gr := w64 (by omega)
          have e4 : wrap64 (pp + gr + 1) = pp + gr + 1 := w64 (by omega)
          cases fb
          all_goals
            try simp only [Bool.false_and, Bool.true_and] at HGET
            go_upto_region 14 with (go_at_call 41; refine (HGET.out _ HR.out.b).mono ?_; rintro e w3 ⟨rfl, hb⟩; have HR2 := Lib.hid (HR.out.below hb); clear hb g1)
            have HR3 := Lib.hid (HR2.out.below ((Below.refl _ _).alloc (Nat.le_refl _) (.cells #[.int .i64 gr, .int .i64 gl] 69)))
            have y0 := cell_row (heap_alloc_new w3 (.cells #[.int .i64 gr, .int .i64 gl] 69)) (i := 0) rfl
            have y1 := cell_row (heap_alloc_new w3 (.cells #[.int .i64 gr, .int .i64 gl] 69)) (i := 1) rfl
            generalize w3.alloc (.cells #[.int .i64 gr, .int .i64 gl] 69) = W3 at *
            generalize w3.heap.size = PB at *
            clear HR2
            have j1 := HR3.out.x.cell 1 _ rfl
            have z3 := HR3.out.b.size
            have zz := HR3.out.x.lt
            have hn64 : k ≤ 64 := hk64
            go_wp2_with (at_builtin; go_loud (refine wpList_append_own _ rfl (.tmp 80) (.tmp 82) 25 rfl (w.heap.size + 2) 69 i0 (.agg #[.int .i64 0, .int .i64 0]) 2 16 Tryz.underlying25 hi hz0 hz1 hz2 rfl (by decide) _ _ _ rfl (HR3.out.o.alloc _) ⟨_, 0, none⟩ 1 1 [.int .i64 gr, .int .i64 gl] rfl rfl (World.news_of_block (cs := #[.int .i64 gr, .int .i64 gl]) (t := 69) (fr := (0, 0)) (heap_alloc_new _ _)) (by simp [Value.oneCell']) (by unfold maxLen; omega) (by omega) (by simp at *; omega) ?_; intro v5 w5 own5 gr5 _; rw [← HPC.out] at own5; have HX := HR3.out.push own5 gr5; clear own5 gr5; obtain ⟨q', c', rfl, HR5, hx5⟩ := HX; have HR5 := Lib.hid HR5; have f1 := frozen_of_row hx5 1; have c5 := hx5.cell 1 _ rfl; clear hx5))
            go_roundg (gk - 1)
            case measure => omega
            case rel => exact ⟨k + 1, _, _, q', c', by omega, rfl, rfl, HN2, HR5⟩
theorem rGet12_any (v : Value) (N : Nat) (F : Nat → Int) (p : Int) (intra : Bool) (w : World) (hN : N ≤ 1000000) (hs : Sl .u8 w v N F) (hb : ∀ j, j < N → 0 ≤ F j ∧ F j ≤ 255) (hp : p ≤ 9223372036854775807) :
    Calls Tryz.prog 13 #[v, .int .i64 p, .bool intra] w (GotB F N p intra w) := by
  by_cases h0 : p < 0
  · exact rGet12_low v N F p intra w h0
  · have hs2 := hs
    obtain ⟨a, c, rfl, _⟩ := hs2
    cases intra
    · exact rGet12_inter a c N F p w hN hs hb (by omega) hp
    · exact rGet12_intra a c N F p w hN hs hb (by omega) hp
end
end Dk
end Go.Proofs.YtpibeocngkjolaaGreatDoor
