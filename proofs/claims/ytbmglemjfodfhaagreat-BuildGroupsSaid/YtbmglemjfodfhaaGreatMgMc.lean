/- macroblocks: what they are; their blocks looked through. -/
import Derived.Test.YtbmglemjfodfhaaGreatMgBk2
import Derived.Test.YtbmglemjfodfhaaGreatMgKd2
import Derived.Test.YtbmglemjfodfhaaGreatMgPat
set_option linter.unusedVariables false
set_option linter.unusedSimpArgs false
namespace Go.Proofs.YtbmglemjfodfhaaGreat
open Go.RowKit
namespace Bk
open Sc
structure MB where
  (ad kd qt x y pt : Int) (m : Nat) (dc : Nat → Int) (q : Nat → Option Addr) (nn cc : Nat → Nat) (r l : Nat → Nat → Int)
def Bls (w : World) (b o m : Nat) (dc : Nat → Int) (q : Nat → Option Addr) (nn cc : Nat → Nat) (r l : Nat → Nat → Int) : Prop :=
  ∀ j, j < m → w.cell? ⟨b, o + j * 2, none⟩ = some (.int .i64 (dc j)) ∧ w.cell? ⟨b, o + j * 2 + 1, none⟩ = some (.slice (q j) (nn j) (cc j)) ∧ Pl w (.slice (q j) (nn j) (cc j)) (nn j) (r j) (l j) ∧ nn j ≤ 1000
theorem Bls.below {w w' : World} {b o m : Nat} {dc : Nat → Int} {q : Nat → Option Addr} {nn cc : Nat → Nat} {r l : Nat → Nat → Int} (h : Bls w b o m dc q nn cc r l) (hb : Below w.heap.size w w') : Bls w' b o m dc q nn cc r l := fun j hj => by
  obtain ⟨h1, h2, h3, h4⟩ := h j hj
  exact ⟨(hb.cell (p := ⟨b, o + j * 2, none⟩) (World.block_lt_of_cell? w _ h1)).trans h1, (hb.cell (p := ⟨b, o + j * 2 + 1, none⟩) (World.block_lt_of_cell? w _ h2)).trans h2, h3.below hb, h4⟩
def Bsl (w : World) (v : Value) (m : Nat) (dc : Nat → Int) (q : Nat → Option Addr) (nn cc : Nat → Nat) (r l : Nat → Nat → Int) : Prop :=
  ∃ a c, v = .slice a m c ∧ m ≤ c ∧ c ≤ maxLen ∧ (m = 0 ∨ ∃ b o, a = some ⟨b, o, none⟩ ∧ Bls w b o m dc q nn cc r l)
theorem Bsl.below {w w' : World} {v : Value} {m : Nat} {dc : Nat → Int} {q : Nat → Option Addr} {nn cc : Nat → Nat} {r l : Nat → Nat → Int} (h : Bsl w v m dc q nn cc r l) (hb : Below w.heap.size w w') : Bsl w' v m dc q nn cc r l := by
  obtain ⟨a, c, e, h1, h2, h3⟩ := h
  refine ⟨a, c, e, h1, h2, ?_⟩
  rcases h3 with h3 | ⟨b, o, e2, h4⟩
  · exact .inl h3
  · exact .inr ⟨b, o, e2, h4.below hb⟩
def okBs (dc : Nat → Int) (nn : Nat → Nat) (r l : Nat → Nat → Int) (i : Bool) (k : Nat) : Prop := ∀ j, j < k → bE (dc j) (nn j) (r j) (l j) i = 0
theorem chk1_any (dc : Int) (q : Option Addr) (n c : Nat) (r l : Nat → Int) (i : Bool) (bp : Nat) (hn : n ≤ 1000) (w : World) (hp : Pl w (.slice q n c) n r l) (hc : w.cell? ⟨bp, 0, none⟩ = some (.bool i)) :
    Calls Tryz.prog 83 #[bv dc q n c, .pointer (some ⟨bp, 0, none⟩)] w fun e w' => e = .returned (.bool (bE dc n r l i != 0)) ∧ Below w.heap.size w w' := by
  have HC := Lib.hid (fun V (h : Pl V (.slice q n c) n r l) => Check_any dc q n c r l i hn V h)
  have HB := Lib.hid ((Below.refl w.heap.size w).alloc (Nat.le_refl _) (.cells #[.int .i64 dc, .slice q n c] 74))
  have hc2 := (HB.out.cell (p := ⟨bp, 0, none⟩) (World.block_lt_of_cell? w _ hc)).trans hc
  have HP := Lib.hid (hp.below HB.out)
  obtain ⟨E, hE⟩ : ∃ E, bE dc n r l i = E := ⟨_, rfl⟩
  rw [hE] at HC
  rw [hE]
  clear hp hc hE
  go_enter Tryz.func83, Tryz.ntmps83
  go_wp2_with (go_at_call 84; refine (HC.out _ HP.out).mono ?_; rintro e w1 ⟨rfl, h1⟩; have HB := Lib.hid (chain HB.out h1); clear h1)
  go_ret
  exact ⟨rfl, HB.out⟩
set_option maxRecDepth 100000 in
set_option maxHeartbeats 1000000 in
theorem IndexFunc_any (v : Value) (m : Nat) (dc : Nat → Int) (q : Nat → Option Addr) (nn cc : Nat → Nat) (r l : Nat → Nat → Int) (i : Bool) (bp : Nat) (w : World) (hs : Bsl w v m dc q nn cc r l) (hc : w.cell? ⟨bp, 0, none⟩ = some (.bool i)) :
    Calls Tryz.prog 125 #[v, .func (.func 83) #[] #[.pointer (some ⟨bp, 0, none⟩)]] w fun e w' => (∃ k : Int, e = .returned (.int .i64 k) ∧ ((k = -1 ∧ okBs dc nn r l i m) ∨ (0 ≤ k ∧ ¬ okBs dc nn r l i m))) ∧ Below w.heap.size w w' := by
  have hlt := World.block_lt_of_cell? w _ hc
  have HC := Lib.hid hc
  have HS := Lib.hid hs
  obtain ⟨a, c, rfl, h1, h2, h3⟩ := hs
  have hm : (m : Int) ≤ 9223372036854775807 := by unfold maxLen at h2; omega
  clear hc
  go_enter Tryz.func125, Tryz.ntmps125
  go_wp2
  go_loopw [8] (fun x wr => ∃ k : Nat, k ≤ m ∧ x = .int .i64 k ∧ Hid (okBs dc nn r l i k) ∧ Hid (Below w.heap.size w wr)) (fun x _ => m - (intOf x).toNat)
  case atStart => exact ⟨0, by omega, rfl, Lib.hid (fun j hj => by omega), Lib.hid (Below.refl _ _)⟩
  case round =>
    obtain ⟨k, hk, rfl, HO, HB⟩ := hrel
    by_cases hkm : k < m
    · rcases h3 with h0 | ⟨b, o, rfl, hI⟩
      · omega
      have HI := Lib.hid (hI.below HB.out)
      obtain ⟨c1, c2, p1, n1⟩ := HI.out k hkm
      have HP := Lib.hid p1
      have kb : (0 : Int) ≤ (k : Int) ∧ (k : Int) < (m : Int) := by omega
      have hc' := (HB.out.cell (p := ⟨bp, 0, none⟩) hlt).trans HC.out
      have HK := Lib.hid (chk1_any (dc k) (q k) (nn k) (cc k) (r k) (l k) i bp n1 wr HP.out hc')
      have HD := Lib.hid (fun (e : bE (dc k) (nn k) (r k) (l k) i = 0) => (fun j hj => by
        by_cases hjk : j = k
        · rw [hjk]; exact e
        · exact HO.out j (by omega) : okBs dc nn r l i (k + 1)))
      have HN := Lib.hid (fun (e : bE (dc k) (nn k) (r k) (l k) i ≠ 0) (h : okBs dc nn r l i m) => e (h k hkm))
      obtain ⟨E, hE⟩ : ∃ E, bE (dc k) (nn k) (r k) (l k) i = E := ⟨_, rfl⟩
      rw [hE] at HK HD HN
      clear hE p1 hc' hI
      by_cases h0 : E = 0
      · have t1 : (E != 0) = false := by simp [h0]
        rw [t1] at HK
        go_wp2_with (go_at_call 83; refine HK.out.mono ?_; rintro e w1 ⟨rfl, h1⟩; have HB := Lib.hid (chain HB.out h1); clear h1)
        go_roundw
        case rel => exact ⟨k + 1, by omega, by go_num, Lib.hid (HD.out h0), HB⟩
        case measure => simp [intOf]; omega
      · have t1 : (E != 0) = true := by simp [h0]
        rw [t1] at HK
        go_wp2_with (go_at_call 83; refine HK.out.mono ?_; rintro e w1 ⟨rfl, h1⟩; have HB := Lib.hid (chain HB.out h1); clear h1)
        go_ret
        exact ⟨⟨_, rfl, .inr ⟨by omega, HN.out h0⟩⟩, HB.out⟩
    · obtain rfl : k = m := by omega
      go_wp2
      go_ret
      exact ⟨⟨_, rfl, .inl ⟨rfl, HO.out⟩⟩, HB.out⟩
theorem ContainsFunc_any (v : Value) (m : Nat) (dc : Nat → Int) (q : Nat → Option Addr) (nn cc : Nat → Nat) (r l : Nat → Nat → Int) (i : Bool) (bp : Nat) (w : World) (hs : Bsl w v m dc q nn cc r l) (hc : w.cell? ⟨bp, 0, none⟩ = some (.bool i)) (bad : Bool) (hbad : bad = false ↔ okBs dc nn r l i m) :
    Calls Tryz.prog 82 #[v, .func (.func 83) #[] #[.pointer (some ⟨bp, 0, none⟩)]] w fun e w' => e = .returned (.bool bad) ∧ Below w.heap.size w w' := by
  have HI := Lib.hid (IndexFunc_any v m dc q nn cc r l i bp w hs hc)
  obtain ⟨a, c, rfl, _, _, _⟩ := hs
  clear hc
  go_enter Tryz.func82, Tryz.ntmps82
  go_wp2_with (go_at_call 125; refine HI.out.mono ?_; rintro e w1 ⟨⟨k, rfl, hk⟩, h1⟩; have HB := Lib.hid h1; have HK := Lib.hid hk; clear h1 hk)
  go_ret
  refine ⟨?_, HB.out⟩
  rcases HK.out with ⟨h1, h2⟩ | ⟨h1, h2⟩
  · rw [hbad.2 h2, h1]; rfl
  · have : bad = true := by
      cases bad
      · exact absurd (hbad.1 rfl) h2
      · rfl
    rw [this]
    simp [h1]
end Bk
end Go.Proofs.YtbmglemjfodfhaaGreat
