/- The statements on the loop filter: the chapter's examples. -/
import Derived.Test.YtkajfabmdljffaaLaw15a
namespace Go.Proofs.Ytkajfabmdljffaa
open Go.RowKit
namespace Lo

theorem some_lit (b n m c : Nat) (hn : n = 2 * m) (g : Nat → Int) (w : World) (hI : Ints w .u8 b 0 n g) (hg : ∀ i, 0 ≤ g i ∧ g i ≤ 255) (hm : m ≤ 1000) :
    Calls Try.prog 53 #[.slice (some ⟨b, 0, none⟩) n c] w (Fresh64 w (someF g m)) := by
  subst hn; exact some_any b m c g w hI hg hm
def p1 (i : Nat) : Int := [(0 : Int), 16].getD i 0
def p2 (i : Nat) : Int := [(0 : Int), 16, 1, 4, 8, 4, 9, 1].getD i 0
def p3 (i : Nat) : Int := [(9 : Int), 16].getD i 0
def p4 (i : Nat) : Int := [(9 : Int), 4, 10, 2, 17, 2, 18, 1].getD i 0
theorem getD_bd (l : List Int) (h : ∀ x ∈ l, 0 ≤ x ∧ x ≤ 255) (i : Nat) : 0 ≤ l.getD i 0 ∧ l.getD i 0 ≤ 255 := by
  rw [List.getD_eq_getElem?_getD]
  by_cases hi : i < l.length
  · rw [List.getElem?_eq_getElem hi]; exact h _ (List.getElem_mem hi)
  · rw [List.getElem?_eq_none (by omega)]; simp
theorem someF_bd (g : Nat → Int) (h : ∀ i, 0 ≤ g i ∧ g i ≤ 255) (m i : Nat) : 0 ≤ someF g m i ∧ someF g m i ≤ 255 := by
  induction m with
  | zero => simp [someF]
  | succ m ih => simp only [someF]; split; exact h _; exact ih
theorem p1_bd : ∀ i, 0 ≤ p1 i ∧ p1 i ≤ 255 := getD_bd _ (by decide)
theorem p2_bd : ∀ i, 0 ≤ p2 i ∧ p2 i ≤ 255 := getD_bd _ (by decide)
theorem p3_bd : ∀ i, 0 ≤ p3 i ∧ p3 i ≤ 255 := getD_bd _ (by decide)
theorem p4_bd : ∀ i, 0 ≤ p4 i ∧ p4 i ≤ 255 := getD_bd _ (by decide)
theorem ex1 : ∀ i, i < 64 → filt (fun _ => 9) i = 9 := by decide +kernel
theorem ex2 : ∀ i, i < 64 → filt (someF p1 1) i = someF p2 4 i := by decide +kernel
theorem ex3 : ∀ i, i < 64 → filt (someF p3 1) i = someF p4 4 i := by decide +kernel
theorem Fresh64.sl {w : World} {f : Nat → Int} {e : Ending} {w' : World} (h : Fresh64 w f e w') : ∃ g c, e = .returned (.slice (some ⟨g, 0, none⟩) 64 c) ∧ Sl .u8 w' (.slice (some ⟨g, 0, none⟩) 64 c) 64 f ∧ Below w.heap.size w w' := by
  obtain ⟨g, c, he, h1, h2, h3, h4, h5, h6⟩ := h
  exact ⟨g, c, he, ⟨_, c, rfl, h3, h4, .inr ⟨g, 0, rfl, h2, h5.ints⟩⟩, h6⟩
theorem lit2 (w : World) (x y : Int) (t : TypeId) (g : Nat → Int) (h0 : g 0 = x) (h1 : g 1 = y) : Ints (w.alloc (.cells #[.int .u8 x, .int .u8 y] t)) .u8 w.heap.size 0 2 g :=
  (Arr.new w .u8 _ t 2 g (fun i hi => by rcases (by omega : i = 0 ∨ i = 1) with rfl | rfl <;> simp [h0, h1])).ints
theorem lit8 (w : World) (a b c d e f x y : Int) (t : TypeId) (g : Nat → Int) (h0 : g 0 = a) (h1 : g 1 = b) (h2 : g 2 = c) (h3 : g 3 = d) (h4 : g 4 = e) (h5 : g 5 = f) (h6 : g 6 = x) (h7 : g 7 = y) :
    Ints (w.alloc (.cells #[.int .u8 a, .int .u8 b, .int .u8 c, .int .u8 d, .int .u8 e, .int .u8 f, .int .u8 x, .int .u8 y] t)) .u8 w.heap.size 0 8 g :=
  (Arr.new w .u8 _ t 8 g (fun i hi => by rcases (by omega : i = 0 ∨ i = 1 ∨ i = 2 ∨ i = 3 ∨ i = 4 ∨ i = 5 ∨ i = 6 ∨ i = 7) with rfl | rfl | rfl | rfl | rfl | rfl | rfl | rfl <;> simp [h0, h1, h2, h3, h4, h5, h6, h7])).ints
theorem below_new {w0 w1 w2 : World} {o : Obj} (h : Below w0.heap.size w0 w1) (k : Below (w1.alloc o).heap.size (w1.alloc o) w2) : Below w0.heap.size w0 w2 :=
  chain (h.alloc h.size o) k

set_option maxRecDepth 100000 in
set_option maxHeartbeats 1000000 in
theorem awake_true (w : World) : Calls Try.prog 34 #[] w fun e w' => e = .returned (.bool true) ∧ Below w.heap.size w w' := by
  go_enter Try.func34, Try.ntmps34
  go_wp2_with fail
  refine (even_any 9 w).mono ?_
  intro e w1 hF
  obtain ⟨g1, c1, rfl, s1, b1⟩ := hF.sl
  have S1 := Lib.hid s1
  have HB := Lib.hid b1
  clear hF s1 b1
  go_wp2_with fail
  refine (even_any 9 w1).mono ?_
  intro e w2 hF
  obtain ⟨g2, c2, rfl, s2, b2⟩ := hF.sl
  have S1 := Lib.hid (S1.out.below b2)
  have S2 := Lib.hid s2
  have HB := Lib.hid (chain HB.out b2)
  clear hF s2 b2
  go_wp2_with fail
  refine (filters_true _ _ _ _ _ S1.out S2.out (fun _ => by omega) ex1).mono ?_
  rintro e w3 ⟨rfl, b3⟩
  have HB := Lib.hid (chain HB.out b3)
  clear b3 S1 S2
  go_wp2_with fail
  refine (some_lit w3.heap.size 2 1 _ rfl p1 _ (lit2 w3 0 16 _ p1 rfl rfl) p1_bd (by decide)).mono ?_
  intro e w4 hF
  obtain ⟨g4, c4, rfl, s4, b4⟩ := hF.sl
  have S1 := Lib.hid s4
  have HB := Lib.hid (below_new HB.out b4)
  clear hF s4 b4
  go_wp2_with fail
  refine (some_lit w4.heap.size 8 4 _ rfl p2 _ (lit8 w4 0 16 1 4 8 4 9 1 _ p2 rfl rfl rfl rfl rfl rfl rfl rfl) p2_bd (by decide)).mono ?_
  intro e w5 hF
  obtain ⟨g5, c5, rfl, s5, b5⟩ := hF.sl
  have S1 := Lib.hid (S1.out.below (below_new (Below.refl w4.heap.size w4) b5))
  have S2 := Lib.hid s5
  have HB := Lib.hid (below_new HB.out b5)
  clear hF s5 b5
  go_wp2_with fail
  refine (filters_true _ _ _ _ _ S1.out S2.out (someF_bd p1 p1_bd 1) ex2).mono ?_
  rintro e w6 ⟨rfl, b6⟩
  have HB := Lib.hid (chain HB.out b6)
  clear b6 S1 S2
  go_wp2_with fail
  refine (some_lit w6.heap.size 2 1 _ rfl p3 _ (lit2 w6 9 16 _ p3 rfl rfl) p3_bd (by decide)).mono ?_
  intro e w7 hF
  obtain ⟨g7, c7, rfl, s7, b7⟩ := hF.sl
  have S1 := Lib.hid s7
  have HB := Lib.hid (below_new HB.out b7)
  clear hF s7 b7
  go_wp2_with fail
  refine (some_lit w7.heap.size 8 4 _ rfl p4 _ (lit8 w7 9 4 10 2 17 2 18 1 _ p4 rfl rfl rfl rfl rfl rfl rfl rfl) p4_bd (by decide)).mono ?_
  intro e w8 hF
  obtain ⟨g8, c8, rfl, s8, b8⟩ := hF.sl
  have S1 := Lib.hid (S1.out.below (below_new (Below.refl w7.heap.size w7) b8))
  have S2 := Lib.hid s8
  have HB := Lib.hid (below_new HB.out b8)
  clear hF s8 b8
  go_wp2_with fail
  refine (filters_true _ _ _ _ _ S1.out S2.out (someF_bd p3 p3_bd 1) ex3).mono ?_
  rintro e w9 ⟨rfl, b9⟩
  have HB := Lib.hid (chain HB.out b9)
  clear b9 S1 S2
  go_wp2_with fail
  go_ret
  exact ⟨rfl, HB.out⟩
end Lo
end Go.Proofs.Ytkajfabmdljffaa
