/- PaintKnown. -/
import Derived.Test.YtkeempljogjceaaPaA
namespace Go.Proofs.Ytkeempljogjceaa
open Go.RowKit
namespace Pa
open Fr Pt

theorem res_slice {k : IntKind} {B : Nat} {w : World} {v : Value} {n : Nat} {f : Nat → Int} (h : Res k B w v n f) : ∃ a c, v = .slice a n c := by
  rcases h with ⟨rfl, rfl⟩ | ⟨g, c, rfl, _⟩
  · exact ⟨_, _, rfl⟩
  · exact ⟨_, _, rfl⟩
theorem res_row {k : IntKind} {B : Nat} {w : World} {v : Value} {n : Nat} {f : Nat → Int} (h : Res k B w v n f) (hn : 0 < n) : ∃ g c, v = .slice (some ⟨g, 0, none⟩) n c ∧ B ≤ g ∧ g < w.heap.size ∧ n ≤ c ∧ c ≤ maxLen ∧ Arr w k g n f := by
  rcases h with ⟨rfl, _⟩ | h
  · omega
  · exact h
def g1F : Nat → Int := layG 0 1 1 1 38016 64 (fun _ => 7) (fun _ => 128)
theorem g1_eq : g1F = layN 0 176 (fun _ => 7) (fun _ => 128) 64 := by
  unfold g1F layG
  rw [if_pos (by decide +kernel), show pA 0 1 1 1 = 0 by decide +kernel, show pS 0 1 1 1 = 176 by decide +kernel]; rfl
theorem g1_vals : g1F 0 = 7 ∧ g1F 7 = 7 ∧ g1F 8 = 128 ∧ g1F 176 = 7 ∧ g1F 175 = 128 := by rw [g1_eq]; decide +kernel
theorem gry0 : gryN 0 = 38016 ∧ gryN 2 = 0 := by decide
theorem lay1 : layE 0 1 1 1 38016 64 = 0 ∧ layE 0 1 1 7 38016 64 = 3 ∧ layE 0 1 1 1 3 64 = 2 ∧ copE 0 1 1 38016 3 = 2 := by
  refine ⟨by decide +kernel, by decide +kernel, by decide +kernel, ?_⟩
  exact copE_two (by decide +kernel) (.inr (by decide +kernel))
def ab (x y : Int) (i : Nat) : Int := if i = 0 then x else y
def q3 (i : Nat) : Int := [(1 : Int), 2, 3].getD i 0
theorem ab_c (k : IntKind) (x y : Int) (i : Nat) (h : i < 2) : (#[.int k x, .int k y] : Array Value)[i]? = some (.int k (ab x y i)) := by
  rcases (by omega : i = 0 ∨ i = 1) with rfl | rfl <;> rfl
theorem q3_c (k : IntKind) (i : Nat) (h : i < 3) : (#[.int k 1, .int k 2, .int k 3] : Array Value)[i]? = some (.int k (q3 i)) := by
  rcases (by omega : i = 0 ∨ i = 1 ∨ i = 2) with rfl | rfl | rfl <;> rfl
theorem lit_sl {w : World} {k : IntKind} (cs : Array Value) (t : TypeId) (n : Nat) (g : Nat → Int) (hn : n ≤ 1000) (h : ∀ i, i < n → cs[i]? = some (.int k (g i))) : Sl k (w.alloc (.cells cs t)) (.slice (some ⟨w.heap.size, 0, none⟩) n n) n g :=
  ⟨_, n, rfl, Nat.le_refl _, by unfold maxLen; omega, .inr ⟨w.heap.size, 0, rfl, by simp, (Arr.new w k cs t n g h).ints⟩⟩
theorem add_short (g : Nat → Int) : addE 2 2 g = 2 := by unfold addE; rw [if_pos (by omega)]
theorem add_far : addE 64 64 (fun _ => 2097152) = 3 := by
  unfold addE
  rw [if_neg (by omega), if_neg]
  intro h
  have := (h 0 (by omega)).2
  exact absurd this (by decide)
theorem add_77 : addE 64 64 (fun _ => 77) = 0 := by
  unfold addE
  rw [if_neg (by omega), if_pos]
  exact fun i _ => ⟨by show (-1048576 : Int) ≤ 77; decide, by show (77 : Int) ≤ 1048576; decide⟩
theorem addN_77 : addN 64 64 (fun _ => 77) = 64 := by unfold addN; rw [add_77, if_pos rfl]
theorem addF_77 (i : Nat) : addF (fun _ => 0) (fun _ => 77) i = 77 := by unfold addF; show clipF (0 + 77) = 77; decide
set_option maxRecDepth 100000 in
set_option maxHeartbeats 4000000 in
theorem PaintKnown_any (w : World) : Calls Try.prog 7 #[] w fun e w' => e = .returned (.bool true) ∧ Below w.heap.size w w' := by
  go_enter Try.func7, Try.ntmps7
  go_wp2_with fail
  refine (Grey_any 0 _).mono ?_
  rintro e w1 ⟨v, rfl, hR, b1⟩
  rw [gry0.1] at hR
  obtain ⟨gg, cg, rfl, l1, l2, l3, l4, hA⟩ := res_row hR (by omega)
  have HA := Lib.hid hA
  have HB := Lib.hid b1
  have c0 := (hA 38015 (by omega)).1
  have lc : (38016 : Int) ≤ (cg : Int) := by omega
  clear hR b1 hA
  go_wp2_with fail
  refine (Grey_any 2 _).mono ?_
  rintro e w2 ⟨v2, rfl, hR, b2⟩
  rw [gry0.2] at hR
  obtain ⟨a2, c2, rfl⟩ := res_slice hR
  have HA := Lib.hid (HA.out.below b2 l2)
  have HB := Lib.hid (chain HB.out b2)
  have z2 := b2.size
  clear hR b2 c0
  go_wp2_with fail
  refine (qcif_any 1 1 _).mono ?_
  rintro e w3 ⟨rfl, b3⟩
  have HA := Lib.hid (HA.out.below b3 (by omega))
  have HB := Lib.hid (chain HB.out b3)
  have z3 := b3.size
  clear b3
  go_wp2_with fail
  refine (same64_any 7 _).mono ?_
  rintro e w4 ⟨g4, rfl, m1, m2, hS, b4⟩
  have HA := Lib.hid (HA.out.below b4 (by omega))
  have HB := Lib.hid (chain HB.out b4)
  have z4 := b4.size
  go_wp2_with fail
  refine (Lay_any gg 38016 38016 cg _ 64 64 _ (fun _ => 7) 0 1 1 1 _ HA.out (Nat.le_refl _) l3 (by omega) (arr_sl hS (by omega) (by omega) (by decide)) (fun _ x e => by cases e; show g4 ≠ gg; omega)).mono ?_
  rintro e w5 ⟨rfl, hA, g5⟩
  rw [lay1.1]
  have HA : Hid (Arr w5 .u8 gg 38016 g1F) := Lib.hid hA
  have HB := Lib.hid (HB.out.grown g5 HB.out.size (fun b e => by have := Option.some.inj e; omega))
  have z5 := g5.size
  clear hS b4 hA g5
  go_wp2_with fail
  refine (Add_any _ _ 2 2 (ab 1 2) (ab 1 2) _ ((lit_sl _ _ 2 _ (by omega) (ab_c .u8 1 2)).below ((Below.refl _ _).alloc (Nat.le_refl _) _)) (by
    have := lit_sl (w := w5.alloc (.cells #[.int .u8 1, .int .u8 2] 5)) (k := .i64) #[.int .i64 1, .int .i64 2] 3 2 (ab 1 2) (by omega) (ab_c .i64 1 2)
    rwa [World.size_alloc] at this) (fun i _ => by unfold ab; split <;> omega)).mono ?_
  rintro e w6 ⟨v6, rfl, hR, b6⟩
  rw [add_short]
  have hb6 := chain (((Below.refl w5.heap.size w5).alloc (Nat.le_refl _) _).alloc (by simp) _) b6
  have HA := Lib.hid (HA.out.below hb6 (by omega))
  have HB := Lib.hid (chain HB.out hb6)
  have z6 := hb6.size
  clear hR b6 hb6
  go_wp2_with fail
  refine (same64_any 3 _).mono ?_
  rintro e w7 ⟨g7, rfl, n1, n2, hS, b7⟩
  have HS := Lib.hid (arr_sl (c := 64) hS (by omega) (by omega) (by decide))
  have HA := Lib.hid (HA.out.below b7 (by omega))
  have HB := Lib.hid (chain HB.out b7)
  have z7 := b7.size
  clear hS b7
  go_wp2_with fail
  refine (ints64_any 2097152 _).mono ?_
  rintro e w8 ⟨g8, rfl, n3, n4, hS, b8⟩
  have HT := Lib.hid (arr_sl (c := 64) hS (by omega) (by omega) (by decide))
  have HS := Lib.hid (HS.out.below b8)
  have HA := Lib.hid (HA.out.below b8 (by omega))
  have HB := Lib.hid (chain HB.out b8)
  have z8 := b8.size
  clear hS b8
  go_wp2_with fail
  refine (Add_any _ _ 64 64 _ _ _ HS.out HT.out (fun _ _ => by omega)).mono ?_
  rintro e w9 ⟨v9, rfl, hR, b9⟩
  rw [add_far]
  have HA := Lib.hid (HA.out.below b9 (by omega))
  have HB := Lib.hid (chain HB.out b9)
  have z9 := b9.size
  clear hR b9 HS HT
  go_wp2_with fail
  refine (ints64_any 77 _).mono ?_
  rintro e w10 ⟨g10, rfl, n5, n6, hS, b10⟩
  have HT := Lib.hid (arr_sl (c := 64) hS (by omega) (by omega) (by decide))
  have HA := Lib.hid (HA.out.below b10 (by omega))
  have HB := Lib.hid (chain HB.out b10)
  have z10 := b10.size
  clear hS b10
  go_wp2_with fail
  refine (Flat_any _ 64 _ _ HT.out).mono ?_
  rintro e w11 ⟨v11, rfl, hR, b11⟩
  rw [add_77]
  rw [addN_77] at hR
  have HR := Lib.hid hR
  have HA := Lib.hid (HA.out.below b11 (by omega))
  have HB := Lib.hid (chain HB.out b11)
  have z11 := b11.size
  have d0 := (HA.out 0 (by omega)).1
  have d1 := (HA.out 7 (by omega)).1
  have d2 := (HA.out 8 (by omega)).1
  have d3 := (HA.out 176 (by omega)).1
  have d4 := (HA.out 175 (by omega)).1
  rw [g1_vals.1] at d0
  rw [g1_vals.2.1] at d1
  rw [g1_vals.2.2.1] at d2
  rw [g1_vals.2.2.2.1] at d3
  rw [g1_vals.2.2.2.2] at d4
  clear hR b11 HT
  go_wp2_with fail
  refine (awake_any _).mono ?_
  rintro e w12 ⟨rfl, b12⟩
  have ba : Below w11.heap.size w11 (w11.alloc (.cells #[.int .u8 1, .int .u8 2, .int .u8 3] 5)) := (Below.refl _ _).alloc (Nat.le_refl _) _
  have hb12 := chain ba b12
  have H3 := Lib.hid ((Arr.new w11 .u8 #[.int .u8 1, .int .u8 2, .int .u8 3] 5 3 q3 (q3_c .u8)).below b12 (by simp))
  have HR := Lib.hid (HR.out.below hb12)
  have HA := Lib.hid (HA.out.below hb12 (by omega))
  have HB := Lib.hid (chain HB.out hb12)
  have z12 := hb12.size
  have z12' : w11.heap.size < w12.heap.size := by have := b12.size; simp at this; omega
  clear ba b12 hb12 d0 d1 d2 d3 d4
  go_wp2_with fail
  refine (same64_any 77 _).mono ?_
  rintro e w13 ⟨g13, rfl, n7, n8, hS, b13⟩
  have HS := Lib.hid (arr_sl (c := 64) hS (by omega) (by omega) (by decide))
  have HR := Lib.hid (HR.out.below b13)
  have H3 := Lib.hid (H3.out.below b13 z12')
  have HA := Lib.hid (HA.out.below b13 (by omega))
  have HB := Lib.hid (chain HB.out b13)
  have z13 := b13.size
  clear hS b13
  go_wp2_with fail
  refine (SameBytes_true _ _ 64 _ _ _ HR.out.sl HS.out (fun i _ => addF_77 i)).mono ?_
  rintro e w14 ⟨rfl, rfl⟩
  clear HR HS
  go_wp2_with fail
  refine (qcif_any 1 1 _).mono ?_
  rintro e w14 ⟨rfl, b14⟩
  have H3 := Lib.hid (H3.out.below b14 (by omega))
  have HA := Lib.hid (HA.out.below b14 (by omega))
  have HB := Lib.hid (chain HB.out b14)
  have z14 := b14.size
  clear b14
  go_wp2_with fail
  refine (same64_any 7 _).mono ?_
  rintro e w15 ⟨g15, rfl, n9, n10, hS, b15⟩
  have H3 := Lib.hid (H3.out.below b15 (by omega))
  have HA := Lib.hid (HA.out.below b15 (by omega))
  have HB := Lib.hid (chain HB.out b15)
  have z15 := b15.size
  go_wp2_with fail
  refine (Lay_any gg 38016 38016 cg _ 64 64 _ (fun _ => 7) 0 1 1 7 _ HA.out (Nat.le_refl _) l3 (by omega) (arr_sl hS (by omega) (by omega) (by decide)) (fun _ x e => by cases e; show g15 ≠ gg; omega)).mono ?_
  rintro e w16 ⟨rfl, hA, g16⟩
  rw [lay1.2.1]
  have H3 := Lib.hid (H3.out.grown g16 (fun e => by have := Option.some.inj e; omega))
  have HA := Lib.hid hA
  have HB := Lib.hid (HB.out.grown g16 HB.out.size (fun b e => by have := Option.some.inj e; omega))
  have z16 := g16.size
  clear hS b15 hA g16
  go_wp2_with fail
  refine (qcif_any 1 1 _).mono ?_
  rintro e w17 ⟨rfl, b17⟩
  have H3 := Lib.hid (H3.out.below b17 (by omega))
  have HA := Lib.hid (HA.out.below b17 (by omega))
  have HB := Lib.hid (chain HB.out b17)
  have z17 := b17.size
  clear b17
  go_wp2_with fail
  refine (same64_any 7 _).mono ?_
  rintro e w18 ⟨g18, rfl, n11, n12, hS, b18⟩
  have H3 := Lib.hid (H3.out.below b18 (by omega))
  have HA := Lib.hid (HA.out.below b18 (by omega))
  have HB := Lib.hid (chain HB.out b18)
  have z18 := b18.size
  go_wp2_with fail
  refine (Lay_any w11.heap.size 3 3 3 _ 64 64 q3 (fun _ => 7) 0 1 1 1 _ H3.out (Nat.le_refl _) (Nat.le_refl _) (by omega) (arr_sl hS (by omega) (by omega) (by decide)) (fun _ x e => by cases e; show g18 ≠ w11.heap.size; omega)).mono ?_
  rintro e w19 ⟨rfl, h3, g19⟩
  rw [lay1.2.2.1]
  have H3 := Lib.hid h3
  have HA := Lib.hid (HA.out.grown g19 (fun e => by have := Option.some.inj e; omega))
  have HB := Lib.hid (HB.out.grown g19 HB.out.size (fun b e => by have := Option.some.inj e; omega))
  have z19 := g19.size
  clear hS b18 h3 g19
  go_wp2_with fail
  refine (qcif_any 1 1 _).mono ?_
  rintro e w20 ⟨rfl, b20⟩
  have H3 := Lib.hid (H3.out.below b20 (by omega))
  have HA := Lib.hid (HA.out.below b20 (by omega))
  have HB := Lib.hid (chain HB.out b20)
  have z20 := b20.size
  clear b20
  go_wp2_with fail
  refine (Copy_any gg 38016 38016 cg _ 3 3 _ _ 0 1 1 _ HA.out (Nat.le_refl _) l3 (by omega) (arr_sl H3.out (by omega) (by omega) (by decide)) (fun _ x e => by cases e; show w11.heap.size ≠ gg; omega)).mono ?_
  rintro e w21 ⟨rfl, hA, g21⟩
  rw [lay1.2.2.2]
  have HB := Lib.hid (HB.out.grown g21 HB.out.size (fun b e => by have := Option.some.inj e; omega))
  clear hA g21
  go_wp2_with fail
  go_ret
  exact ⟨rfl, HB.out⟩
end Pa
end Go.Proofs.Ytkeempljogjceaa
