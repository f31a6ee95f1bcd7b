/- CoeffApart. -/
import Derived.Test.YteigdcbaojmfgaaDoorCiO
import Derived.Test.YteigdcbaojmfgaaDoorCiV
namespace Go.Proofs.YteigdcbaojmfgaaDoor
open Go.RowKit
set_option linter.unusedSimpArgs false
set_option linter.unusedVariables false
namespace Cf
/-- what holds in CoeffApart: both pairs lie in cells. -/
structure AK (w : World) (B : Nat) (r l r' l' : Int) (V : World) : Prop where
  t : Tabs V
  b : Below w.heap.size w V
  c0 : V.cell? ⟨B, 0, none⟩ = some (.int .i64 r)
  c1 : V.cell? ⟨B, 1, none⟩ = some (.int .i64 l)
  d0 : V.cell? ⟨B + 1, 0, none⟩ = some (.int .i64 r')
  d1 : V.cell? ⟨B + 1, 1, none⟩ = some (.int .i64 l')
theorem AK.below {w V V' : World} {B : Nat} {r l r' l' : Int} (h : AK w B r l r' l' V) (hb : Below V.heap.size V V') : AK w B r l r' l' V' :=
  ⟨h.t.below hb, chain h.b hb, (hb.cell (World.block_lt_of_cell? _ _ h.c0)).trans h.c0, (hb.cell (World.block_lt_of_cell? _ _ h.c1)).trans h.c1, (hb.cell (World.block_lt_of_cell? _ _ h.d0)).trans h.d0, (hb.cell (World.block_lt_of_cell? _ _ h.d1)).trans h.d1⟩
theorem AK.new {w V : World} {r l r' l' : Int} (h : AW w V) : AK w V.heap.size r l r' l' ((V.alloc (.cells #[.int .i64 r, .int .i64 l] 26)).alloc (.cells #[.int .i64 r', .int .i64 l'] 26)) := by
  have hn := heap_alloc_new V (.cells #[.int .i64 r, .int .i64 l] 26)
  have hb : Below V.heap.size V (V.alloc (.cells #[.int .i64 r, .int .i64 l] 26)) := (Below.refl _ V).alloc (Nat.le_refl _) _
  have hz : (V.alloc (.cells #[.int .i64 r, .int .i64 l] 26)).heap.size = V.heap.size + 1 := by simp
  have h1 := h.below hb
  generalize V.alloc (.cells #[.int .i64 r, .int .i64 l] 26) = W at *
  have hn2 := heap_alloc_new W (.cells #[.int .i64 r', .int .i64 l'] 26)
  have hb2 : Below W.heap.size W (W.alloc (.cells #[.int .i64 r', .int .i64 l'] 26)) := (Below.refl _ W).alloc (Nat.le_refl _) _
  have k := (hb2.block _ (Array.getElem?_eq_some_iff.1 hn).1).trans hn
  have h2 := h1.below hb2
  rw [hz] at hn2
  exact ⟨h2.t, h2.b, cell_row k (i := 0) rfl, cell_row k (i := 1) rfl, cell_row hn2 (i := 0) rfl, cell_row hn2 (i := 1) rfl⟩
theorem eq_ext (x y : List Bool) (k : Nat) (hk : k = min x.length y.length) (U V : ByteArray) (hU : sv (cs x) = .string U) (hV : sv (cs y) = .string V) : ((U.extract 0 k).toList == (V.extract 0 k).toList) = sameB (cs x) (cs y) := by
  unfold sv at hU hV
  injection hU with hU
  injection hV with hV
  subst hU hV
  rw [ba_extract, ba_extract, ByteArray.toList_mk, ByteArray.toList_mk, List.drop_zero, List.drop_zero]
  unfold sameB
  rw [cs_len, cs_len, hk]
theorem eq_str (x y : List Bool) (U V : ByteArray) (hU : sv (cs x) = .string U) (hV : sv (cs y) = .string V) : (U.toList == V.toList) = decide (x = y) := by
  unfold sv at hU hV
  injection hU with hU
  injection hV with hV
  subst hU hV
  rw [ByteArray.toList_mk, ByteArray.toList_mk]
  by_cases h : x = y
  · subst h; simp
  · rw [decide_eq_false h, beq_eq_false_iff_ne]
    exact fun e => h (cs_inj e)
theorem not_ten (x : List Bool) (U : ByteArray) (hU : sv (cs x) = .string U) (h : ¬ [true, false] <+: x) : ((U.extract 0 2).toList == [49, 48]) = false := by
  unfold sv at hU
  injection hU with hU
  subst hU
  rw [ba_extract, ByteArray.toList_mk, List.drop_zero, beq_eq_false_iff_ne]
  intro e
  rw [cs_take, endB_cs] at e
  have := cs_inj e
  exact h (by rw [← this]; exact List.take_prefix _ _)
section
set_option maxRecDepth 100000
set_option maxHeartbeats 4000000
theorem CoeffApart_any (a b c d : Int) (first : Bool) (w : World) (h1 : (Lit.int .i64 a).wf = true) (h2 : (Lit.int .i64 b).wf = true) (h3 : (Lit.int .i64 c).wf = true) (h4 : (Lit.int .i64 d).wf = true) (hT : Tabs w) :
    Calls Tryd.prog 4 #[.int .i64 a, .int .i64 b, .int .i64 c, .int .i64 d, .bool first] w fun e w' => e = .returned (.bool true) ∧ Below w.heap.size w w' := by
  have HA := Lib.hid (fun W h => awake_any W h)
  have HO1 := Lib.hid (fun W => of_any a b W)
  have HO2 := Lib.hid (fun W => of_any c d W)
  have hp := of_pair a b
  have hq := of_pair c d
  obtain ⟨r, hr⟩ : ∃ r, a % 64 = r := ⟨_, rfl⟩
  obtain ⟨l, hl⟩ : ∃ r, ofL b = r := ⟨_, rfl⟩
  obtain ⟨r', hr'⟩ : ∃ r, c % 64 = r := ⟨_, rfl⟩
  obtain ⟨l', hl'⟩ : ∃ r, ofL d = r := ⟨_, rfl⟩
  rw [hr, hl] at HO1 hp
  rw [hr', hl'] at HO2 hq
  have A := Lib.hid (AW.new hT)
  clear h1 h2 h3 h4 hr hl hr' hl' hT
  have HP1 := Lib.hid (fun W h => Put_any r l first W h)
  have HP2 := Lib.hid (fun W h => Put_any r' l' first W h)
  have HE := Lib.hid (fun W h => Escape_any r' l' W h)
  rw [hp, if_pos rfl, if_pos rfl, putL_cs] at HP1
  rw [hq, if_pos rfl, if_pos rfl, putL_cs] at HP2
  rw [hq, if_pos rfl, if_pos rfl] at HE
  have L1 := put_len first r l
  have L2 := put_len first r' l'
  have HC1 := Lib.hid (fun W => lcode_any (putB first r l) 20 W (by omega) L1.2 (by decide) (put_ones first r l))
  have HC2 := Lib.hid (fun W => lcode_any (putB first r' l') 20 W (by omega) L2.2 (by decide) (put_ones first r' l'))
  have AP := put_apart first hp hq
  have AE := put_apart_esc first hp hq
  have NE := fun (h : first = false) => put_not_end hp
  obtain ⟨U, hU⟩ : ∃ U : ByteArray, sv (cs (putB first r l)) = .string U := ⟨_, rfl⟩
  obtain ⟨V, hV⟩ : ∃ U : ByteArray, sv (cs (putB first r' l')) = .string U := ⟨_, rfl⟩
  obtain ⟨X, hX⟩ : ∃ U : ByteArray, sv (cs (escL r' l')) = .string U := ⟨_, rfl⟩
  have zz : ∀ (x : List Bool) (Y : ByteArray), sv (cs x) = .string Y → Y.size = x.length := fun x Y h => by
    unfold sv at h
    injection h with h
    rw [← h, ba_size, cs_len]
  have zU := zz _ _ hU
  have zV := zz _ _ hV
  have zX := zz _ _ hX
  rw [escL_len] at zX
  have Q1 := eq_ext _ _ (min (putB first r l).length (putB first r' l').length) rfl U V hU hV
  have Q2 := eq_ext _ _ (putB first r l).length (by rw [escL_len]; omega) U X hU hX
  have Q3 := eq_str _ _ U X hU hX
  rw [hU] at HP1 HC1
  rw [hV] at HP2 HC2
  rw [hX] at HE
  unfold prV at *
  have NT : first = false → ((U.extract 0 2).toList == [49, 48]) = false := fun h => not_ten _ U hU (h ▸ NE h)
  have B1 : sameB (cs (putB first r l)) (cs (putB first r' l')) = decide (r = r' ∧ l = l') := by
    by_cases h : r = r' ∧ l = l'
    · rw [decide_eq_true h]; exact AP.2 h
    · rw [decide_eq_false h, ← Bool.not_eq_true]; exact fun e => h (AP.1 e)
  rw [B1] at Q1
  have HUV : r = r' ∧ l = l' → V = U := by
    intro h
    have e : putB first r' l' = putB first r l := by rw [h.1, h.2]
    have hV2 := hV
    rw [e] at hV2
    exact Value.string.inj (hV2.symm.trans hU)
  generalize putB first r l = lb at *
  generalize putB first r' l' = lb' at *
  obtain ⟨n1, hn1⟩ : ∃ n, lb.length = n := ⟨_, rfl⟩
  obtain ⟨n2, hn2⟩ : ∃ n, lb'.length = n := ⟨_, rfl⟩
  rw [hn1] at zU Q1 Q2 L1
  rw [hn2] at zV Q1 L2
  have hmn : min (n1 : Int) (n2 : Int) = ((min n1 n2 : Nat) : Int) := by omega
  have hm20 : min (n1 : Int) 20 = (n1 : Int) := by omega
  obtain ⟨k, hk⟩ : ∃ k, min n1 n2 = k := ⟨_, rfl⟩
  rw [hk] at hmn Q1
  have k1 : (k : Int) ≤ (n1 : Int) := by omega
  have k2 : (k : Int) ≤ (n2 : Int) := by omega
  have k0 : (0 : Int) ≤ (k : Int) := by omega
  have l0 : (0 : Int) ≤ (n1 : Int) := by omega
  have l20 : (n1 : Int) ≤ 20 := by omega
  have l2 : ¬ (n1 : Int) < 2 := by omega
  have l22 : (2 : Int) ≤ (n1 : Int) := by omega
  have Q4 : (U.toList != X.toList) = !(decide (lb = escL r' l')) := by rw [← Q3]; rfl
  have hb2 : (sameB (cs lb) (cs (escL r' l')) = true ∧ decide (lb = escL r' l') = true) ∨ sameB (cs lb) (cs (escL r' l')) = false := by
    cases h : sameB (cs lb) (cs (escL r' l')) with
    | false => exact .inr rfl
    | true => exact .inl ⟨rfl, decide_eq_true (AE h)⟩
  clear hp hq AP AE NE zz hU hV hX B1 hn1 hn2 hk L1 L2
  have ARMS : True := trivial
  have hcase : (r = r' ∧ l = l') ∨ r ≠ r' ∨ (r = r' ∧ l ≠ l') := by
    by_cases h1 : r = r'
    · by_cases h2 : l = l'
      · exact .inl ⟨h1, h2⟩
      · exact .inr (.inr ⟨h1, h2⟩)
    · exact .inr (.inl h1)
  have hft : first = true ∨ (first = false ∧ ((U.extract 0 2).toList == [49, 48]) = false) := by
    cases first with
    | true => exact .inl rfl
    | false => exact .inr ⟨rfl, NT rfl⟩
  clear NT
  rcases hcase with h | h | h
  · rw [decide_eq_true h] at Q1
    have hv := HUV h
    obtain ⟨rfl, rfl⟩ := h
    subst hv
    obtain rfl : n1 = n2 := zU.symm.trans zV
    obtain rfl : k = n1 := by omega
    clear zV hmn k1 k2
    rcases hb2 with ⟨b2, b3⟩ | b2
    · rw [b2] at Q2
      rw [b3] at Q3 Q4
      clear b2 b3
      rcases hft with rfl | ⟨rfl, hten⟩
      · go_enter Tryd.func4, Tryd.ntmps4
        go_wp2_with (first
          | (go_at_call 9; have t0 := A.out; refine (HA.out _ t0.t).mono ?_; rintro e w1 ⟨rfl, hb⟩; have A1 := Lib.hid (t0.below hb); clear hb t0 A)
          | (go_at_call 14; have t0 := A1.out; refine (HO1.out _).mono ?_; rintro e w2 ⟨rfl, hb⟩; have A2 := Lib.hid (t0.below hb); clear hb t0 A1)
          | (go_at_call 14; have t0 := A2.out; refine (HO2.out _).mono ?_; rintro e w3 ⟨rfl, hb⟩; have K0 := Lib.hid (AK.new (r := r) (l := l) (r' := r) (l' := l) (t0.below hb)); obtain ⟨_, _, c0, c1, d0, d1⟩ := K0.out; clear hb t0 A2)
          | (go_at_call 15; have t0 := K0.out; refine (HP1.out _ t0.t).mono ?_; rintro e w4 ⟨rfl, hb⟩; have K1 := Lib.hid (t0.below hb); clear hb t0 K0 c0 c1 d0 d1; obtain ⟨_, _, c0, c1, d0, d1⟩ := K1.out)
          | (go_at_call 15; have t0 := K1.out; refine (HP2.out _ t0.t).mono ?_; rintro e w5 ⟨rfl, hb⟩; have K2 := Lib.hid (t0.below hb); clear hb t0 K1 c0 c1 d0 d1; obtain ⟨_, _, c0, c1, d0, d1⟩ := K2.out)
          | (go_at_call 16; have t0 := K2.out; refine (HE.out _ t0.t).mono ?_; rintro e w6 ⟨rfl, hb⟩; have K3 := Lib.hid (t0.below hb); clear hb t0 K2 c0 c1 d0 d1; obtain ⟨_, _, c0, c1, d0, d1⟩ := K3.out; have tk : True := trivial)
          | (go_at_call 17; have t0 := tk; refine (HC1.out _).mono ?_; rintro e w7 ⟨rfl, rfl⟩; clear tk t0)
          | (go_at_call 17; refine (HC2.out _).mono ?_; rintro e w8 ⟨rfl, rfl⟩))
        go_quiet (fail)
        go_wp2_with fail
        go_ret
        exact ⟨rfl, below_drewN K3.out.b _⟩
      · go_enter Tryd.func4, Tryd.ntmps4
        go_wp2_with (first
          | (go_at_call 9; have t0 := A.out; refine (HA.out _ t0.t).mono ?_; rintro e w1 ⟨rfl, hb⟩; have A1 := Lib.hid (t0.below hb); clear hb t0 A)
          | (go_at_call 14; have t0 := A1.out; refine (HO1.out _).mono ?_; rintro e w2 ⟨rfl, hb⟩; have A2 := Lib.hid (t0.below hb); clear hb t0 A1)
          | (go_at_call 14; have t0 := A2.out; refine (HO2.out _).mono ?_; rintro e w3 ⟨rfl, hb⟩; have K0 := Lib.hid (AK.new (r := r) (l := l) (r' := r) (l' := l) (t0.below hb)); obtain ⟨_, _, c0, c1, d0, d1⟩ := K0.out; clear hb t0 A2)
          | (go_at_call 15; have t0 := K0.out; refine (HP1.out _ t0.t).mono ?_; rintro e w4 ⟨rfl, hb⟩; have K1 := Lib.hid (t0.below hb); clear hb t0 K0 c0 c1 d0 d1; obtain ⟨_, _, c0, c1, d0, d1⟩ := K1.out)
          | (go_at_call 15; have t0 := K1.out; refine (HP2.out _ t0.t).mono ?_; rintro e w5 ⟨rfl, hb⟩; have K2 := Lib.hid (t0.below hb); clear hb t0 K1 c0 c1 d0 d1; obtain ⟨_, _, c0, c1, d0, d1⟩ := K2.out)
          | (go_at_call 16; have t0 := K2.out; refine (HE.out _ t0.t).mono ?_; rintro e w6 ⟨rfl, hb⟩; have K3 := Lib.hid (t0.below hb); clear hb t0 K2 c0 c1 d0 d1; obtain ⟨_, _, c0, c1, d0, d1⟩ := K3.out; have tk : True := trivial)
          | (go_at_call 17; have t0 := tk; refine (HC1.out _).mono ?_; rintro e w7 ⟨rfl, rfl⟩; clear tk t0)
          | (go_at_call 17; refine (HC2.out _).mono ?_; rintro e w8 ⟨rfl, rfl⟩))
        go_quiet (fail)
        go_wp2_with fail
        go_ret
        exact ⟨rfl, below_drewN K3.out.b _⟩
    · rw [b2] at Q2
      clear b2 Q3 Q4
      rcases hft with rfl | ⟨rfl, hten⟩
      · go_enter Tryd.func4, Tryd.ntmps4
        go_wp2_with (first
          | (go_at_call 9; have t0 := A.out; refine (HA.out _ t0.t).mono ?_; rintro e w1 ⟨rfl, hb⟩; have A1 := Lib.hid (t0.below hb); clear hb t0 A)
          | (go_at_call 14; have t0 := A1.out; refine (HO1.out _).mono ?_; rintro e w2 ⟨rfl, hb⟩; have A2 := Lib.hid (t0.below hb); clear hb t0 A1)
          | (go_at_call 14; have t0 := A2.out; refine (HO2.out _).mono ?_; rintro e w3 ⟨rfl, hb⟩; have K0 := Lib.hid (AK.new (r := r) (l := l) (r' := r) (l' := l) (t0.below hb)); obtain ⟨_, _, c0, c1, d0, d1⟩ := K0.out; clear hb t0 A2)
          | (go_at_call 15; have t0 := K0.out; refine (HP1.out _ t0.t).mono ?_; rintro e w4 ⟨rfl, hb⟩; have K1 := Lib.hid (t0.below hb); clear hb t0 K0 c0 c1 d0 d1; obtain ⟨_, _, c0, c1, d0, d1⟩ := K1.out)
          | (go_at_call 15; have t0 := K1.out; refine (HP2.out _ t0.t).mono ?_; rintro e w5 ⟨rfl, hb⟩; have K2 := Lib.hid (t0.below hb); clear hb t0 K1 c0 c1 d0 d1; obtain ⟨_, _, c0, c1, d0, d1⟩ := K2.out)
          | (go_at_call 16; have t0 := K2.out; refine (HE.out _ t0.t).mono ?_; rintro e w6 ⟨rfl, hb⟩; have K3 := Lib.hid (t0.below hb); clear hb t0 K2 c0 c1 d0 d1; obtain ⟨_, _, c0, c1, d0, d1⟩ := K3.out; have tk : True := trivial)
          | (go_at_call 17; have t0 := tk; refine (HC1.out _).mono ?_; rintro e w7 ⟨rfl, rfl⟩; clear tk t0)
          | (go_at_call 17; refine (HC2.out _).mono ?_; rintro e w8 ⟨rfl, rfl⟩))
        go_quiet (fail)
        go_wp2_with fail
        go_ret
        exact ⟨rfl, below_drewN K3.out.b _⟩
      · go_enter Tryd.func4, Tryd.ntmps4
        go_wp2_with (first
          | (go_at_call 9; have t0 := A.out; refine (HA.out _ t0.t).mono ?_; rintro e w1 ⟨rfl, hb⟩; have A1 := Lib.hid (t0.below hb); clear hb t0 A)
          | (go_at_call 14; have t0 := A1.out; refine (HO1.out _).mono ?_; rintro e w2 ⟨rfl, hb⟩; have A2 := Lib.hid (t0.below hb); clear hb t0 A1)
          | (go_at_call 14; have t0 := A2.out; refine (HO2.out _).mono ?_; rintro e w3 ⟨rfl, hb⟩; have K0 := Lib.hid (AK.new (r := r) (l := l) (r' := r) (l' := l) (t0.below hb)); obtain ⟨_, _, c0, c1, d0, d1⟩ := K0.out; clear hb t0 A2)
          | (go_at_call 15; have t0 := K0.out; refine (HP1.out _ t0.t).mono ?_; rintro e w4 ⟨rfl, hb⟩; have K1 := Lib.hid (t0.below hb); clear hb t0 K0 c0 c1 d0 d1; obtain ⟨_, _, c0, c1, d0, d1⟩ := K1.out)
          | (go_at_call 15; have t0 := K1.out; refine (HP2.out _ t0.t).mono ?_; rintro e w5 ⟨rfl, hb⟩; have K2 := Lib.hid (t0.below hb); clear hb t0 K1 c0 c1 d0 d1; obtain ⟨_, _, c0, c1, d0, d1⟩ := K2.out)
          | (go_at_call 16; have t0 := K2.out; refine (HE.out _ t0.t).mono ?_; rintro e w6 ⟨rfl, hb⟩; have K3 := Lib.hid (t0.below hb); clear hb t0 K2 c0 c1 d0 d1; obtain ⟨_, _, c0, c1, d0, d1⟩ := K3.out; have tk : True := trivial)
          | (go_at_call 17; have t0 := tk; refine (HC1.out _).mono ?_; rintro e w7 ⟨rfl, rfl⟩; clear tk t0)
          | (go_at_call 17; refine (HC2.out _).mono ?_; rintro e w8 ⟨rfl, rfl⟩))
        go_quiet (fail)
        go_wp2_with fail
        go_ret
        exact ⟨rfl, below_drewN K3.out.b _⟩
  · rw [decide_eq_false (fun e => h e.1)] at Q1
    have e1 : (r == r') = false := by rw [beq_eq_false_iff_ne]; exact h
    clear h HUV
    by_cases hl : l = l'
    · have e2 : (l == l') = true := by rw [beq_iff_eq]; exact hl
      clear hl
      rcases hb2 with ⟨b2, b3⟩ | b2
      · rw [b2] at Q2
        rw [b3] at Q3 Q4
        clear b2 b3
        rcases hft with rfl | ⟨rfl, hten⟩
        · go_enter Tryd.func4, Tryd.ntmps4
          go_wp2_with (first
            | (go_at_call 9; have t0 := A.out; refine (HA.out _ t0.t).mono ?_; rintro e w1 ⟨rfl, hb⟩; have A1 := Lib.hid (t0.below hb); clear hb t0 A)
            | (go_at_call 14; have t0 := A1.out; refine (HO1.out _).mono ?_; rintro e w2 ⟨rfl, hb⟩; have A2 := Lib.hid (t0.below hb); clear hb t0 A1)
            | (go_at_call 14; have t0 := A2.out; refine (HO2.out _).mono ?_; rintro e w3 ⟨rfl, hb⟩; have K0 := Lib.hid (AK.new (r := r) (l := l) (r' := r') (l' := l') (t0.below hb)); obtain ⟨_, _, c0, c1, d0, d1⟩ := K0.out; clear hb t0 A2)
            | (go_at_call 15; have t0 := K0.out; refine (HP1.out _ t0.t).mono ?_; rintro e w4 ⟨rfl, hb⟩; have K1 := Lib.hid (t0.below hb); clear hb t0 K0 c0 c1 d0 d1; obtain ⟨_, _, c0, c1, d0, d1⟩ := K1.out)
            | (go_at_call 15; have t0 := K1.out; refine (HP2.out _ t0.t).mono ?_; rintro e w5 ⟨rfl, hb⟩; have K2 := Lib.hid (t0.below hb); clear hb t0 K1 c0 c1 d0 d1; obtain ⟨_, _, c0, c1, d0, d1⟩ := K2.out)
            | (go_at_call 16; have t0 := K2.out; refine (HE.out _ t0.t).mono ?_; rintro e w6 ⟨rfl, hb⟩; have K3 := Lib.hid (t0.below hb); clear hb t0 K2 c0 c1 d0 d1; obtain ⟨_, _, c0, c1, d0, d1⟩ := K3.out; have tk : True := trivial)
            | (go_at_call 17; have t0 := tk; refine (HC1.out _).mono ?_; rintro e w7 ⟨rfl, rfl⟩; clear tk t0)
            | (go_at_call 17; refine (HC2.out _).mono ?_; rintro e w8 ⟨rfl, rfl⟩))
          go_quiet (fail)
          go_wp2_with fail
          go_ret
          exact ⟨rfl, below_drewN K3.out.b _⟩
        · go_enter Tryd.func4, Tryd.ntmps4
          go_wp2_with (first
            | (go_at_call 9; have t0 := A.out; refine (HA.out _ t0.t).mono ?_; rintro e w1 ⟨rfl, hb⟩; have A1 := Lib.hid (t0.below hb); clear hb t0 A)
            | (go_at_call 14; have t0 := A1.out; refine (HO1.out _).mono ?_; rintro e w2 ⟨rfl, hb⟩; have A2 := Lib.hid (t0.below hb); clear hb t0 A1)
            | (go_at_call 14; have t0 := A2.out; refine (HO2.out _).mono ?_; rintro e w3 ⟨rfl, hb⟩; have K0 := Lib.hid (AK.new (r := r) (l := l) (r' := r') (l' := l') (t0.below hb)); obtain ⟨_, _, c0, c1, d0, d1⟩ := K0.out; clear hb t0 A2)
            | (go_at_call 15; have t0 := K0.out; refine (HP1.out _ t0.t).mono ?_; rintro e w4 ⟨rfl, hb⟩; have K1 := Lib.hid (t0.below hb); clear hb t0 K0 c0 c1 d0 d1; obtain ⟨_, _, c0, c1, d0, d1⟩ := K1.out)
            | (go_at_call 15; have t0 := K1.out; refine (HP2.out _ t0.t).mono ?_; rintro e w5 ⟨rfl, hb⟩; have K2 := Lib.hid (t0.below hb); clear hb t0 K1 c0 c1 d0 d1; obtain ⟨_, _, c0, c1, d0, d1⟩ := K2.out)
            | (go_at_call 16; have t0 := K2.out; refine (HE.out _ t0.t).mono ?_; rintro e w6 ⟨rfl, hb⟩; have K3 := Lib.hid (t0.below hb); clear hb t0 K2 c0 c1 d0 d1; obtain ⟨_, _, c0, c1, d0, d1⟩ := K3.out; have tk : True := trivial)
            | (go_at_call 17; have t0 := tk; refine (HC1.out _).mono ?_; rintro e w7 ⟨rfl, rfl⟩; clear tk t0)
            | (go_at_call 17; refine (HC2.out _).mono ?_; rintro e w8 ⟨rfl, rfl⟩))
          go_quiet (fail)
          go_wp2_with fail
          go_ret
          exact ⟨rfl, below_drewN K3.out.b _⟩
      · rw [b2] at Q2
        clear b2 Q3 Q4
        rcases hft with rfl | ⟨rfl, hten⟩
        · go_enter Tryd.func4, Tryd.ntmps4
          go_wp2_with (first
            | (go_at_call 9; have t0 := A.out; refine (HA.out _ t0.t).mono ?_; rintro e w1 ⟨rfl, hb⟩; have A1 := Lib.hid (t0.below hb); clear hb t0 A)
            | (go_at_call 14; have t0 := A1.out; refine (HO1.out _).mono ?_; rintro e w2 ⟨rfl, hb⟩; have A2 := Lib.hid (t0.below hb); clear hb t0 A1)
            | (go_at_call 14; have t0 := A2.out; refine (HO2.out _).mono ?_; rintro e w3 ⟨rfl, hb⟩; have K0 := Lib.hid (AK.new (r := r) (l := l) (r' := r') (l' := l') (t0.below hb)); obtain ⟨_, _, c0, c1, d0, d1⟩ := K0.out; clear hb t0 A2)
            | (go_at_call 15; have t0 := K0.out; refine (HP1.out _ t0.t).mono ?_; rintro e w4 ⟨rfl, hb⟩; have K1 := Lib.hid (t0.below hb); clear hb t0 K0 c0 c1 d0 d1; obtain ⟨_, _, c0, c1, d0, d1⟩ := K1.out)
            | (go_at_call 15; have t0 := K1.out; refine (HP2.out _ t0.t).mono ?_; rintro e w5 ⟨rfl, hb⟩; have K2 := Lib.hid (t0.below hb); clear hb t0 K1 c0 c1 d0 d1; obtain ⟨_, _, c0, c1, d0, d1⟩ := K2.out)
            | (go_at_call 16; have t0 := K2.out; refine (HE.out _ t0.t).mono ?_; rintro e w6 ⟨rfl, hb⟩; have K3 := Lib.hid (t0.below hb); clear hb t0 K2 c0 c1 d0 d1; obtain ⟨_, _, c0, c1, d0, d1⟩ := K3.out; have tk : True := trivial)
            | (go_at_call 17; have t0 := tk; refine (HC1.out _).mono ?_; rintro e w7 ⟨rfl, rfl⟩; clear tk t0)
            | (go_at_call 17; refine (HC2.out _).mono ?_; rintro e w8 ⟨rfl, rfl⟩))
          go_quiet (fail)
          go_wp2_with fail
          go_ret
          exact ⟨rfl, below_drewN K3.out.b _⟩
        · go_enter Tryd.func4, Tryd.ntmps4
          go_wp2_with (first
            | (go_at_call 9; have t0 := A.out; refine (HA.out _ t0.t).mono ?_; rintro e w1 ⟨rfl, hb⟩; have A1 := Lib.hid (t0.below hb); clear hb t0 A)
            | (go_at_call 14; have t0 := A1.out; refine (HO1.out _).mono ?_; rintro e w2 ⟨rfl, hb⟩; have A2 := Lib.hid (t0.below hb); clear hb t0 A1)
            | (go_at_call 14; have t0 := A2.out; refine (HO2.out _).mono ?_; rintro e w3 ⟨rfl, hb⟩; have K0 := Lib.hid (AK.new (r := r) (l := l) (r' := r') (l' := l') (t0.below hb)); obtain ⟨_, _, c0, c1, d0, d1⟩ := K0.out; clear hb t0 A2)
            | (go_at_call 15; have t0 := K0.out; refine (HP1.out _ t0.t).mono ?_; rintro e w4 ⟨rfl, hb⟩; have K1 := Lib.hid (t0.below hb); clear hb t0 K0 c0 c1 d0 d1; obtain ⟨_, _, c0, c1, d0, d1⟩ := K1.out)
            | (go_at_call 15; have t0 := K1.out; refine (HP2.out _ t0.t).mono ?_; rintro e w5 ⟨rfl, hb⟩; have K2 := Lib.hid (t0.below hb); clear hb t0 K1 c0 c1 d0 d1; obtain ⟨_, _, c0, c1, d0, d1⟩ := K2.out)
            | (go_at_call 16; have t0 := K2.out; refine (HE.out _ t0.t).mono ?_; rintro e w6 ⟨rfl, hb⟩; have K3 := Lib.hid (t0.below hb); clear hb t0 K2 c0 c1 d0 d1; obtain ⟨_, _, c0, c1, d0, d1⟩ := K3.out; have tk : True := trivial)
            | (go_at_call 17; have t0 := tk; refine (HC1.out _).mono ?_; rintro e w7 ⟨rfl, rfl⟩; clear tk t0)
            | (go_at_call 17; refine (HC2.out _).mono ?_; rintro e w8 ⟨rfl, rfl⟩))
          go_quiet (fail)
          go_wp2_with fail
          go_ret
          exact ⟨rfl, below_drewN K3.out.b _⟩
    · have e2 : (l == l') = false := by rw [beq_eq_false_iff_ne]; exact hl
      clear hl
      rcases hb2 with ⟨b2, b3⟩ | b2
      · rw [b2] at Q2
        rw [b3] at Q3 Q4
        clear b2 b3
        rcases hft with rfl | ⟨rfl, hten⟩
        · go_enter Tryd.func4, Tryd.ntmps4
          go_wp2_with (first
            | (go_at_call 9; have t0 := A.out; refine (HA.out _ t0.t).mono ?_; rintro e w1 ⟨rfl, hb⟩; have A1 := Lib.hid (t0.below hb); clear hb t0 A)
            | (go_at_call 14; have t0 := A1.out; refine (HO1.out _).mono ?_; rintro e w2 ⟨rfl, hb⟩; have A2 := Lib.hid (t0.below hb); clear hb t0 A1)
            | (go_at_call 14; have t0 := A2.out; refine (HO2.out _).mono ?_; rintro e w3 ⟨rfl, hb⟩; have K0 := Lib.hid (AK.new (r := r) (l := l) (r' := r') (l' := l') (t0.below hb)); obtain ⟨_, _, c0, c1, d0, d1⟩ := K0.out; clear hb t0 A2)
            | (go_at_call 15; have t0 := K0.out; refine (HP1.out _ t0.t).mono ?_; rintro e w4 ⟨rfl, hb⟩; have K1 := Lib.hid (t0.below hb); clear hb t0 K0 c0 c1 d0 d1; obtain ⟨_, _, c0, c1, d0, d1⟩ := K1.out)
            | (go_at_call 15; have t0 := K1.out; refine (HP2.out _ t0.t).mono ?_; rintro e w5 ⟨rfl, hb⟩; have K2 := Lib.hid (t0.below hb); clear hb t0 K1 c0 c1 d0 d1; obtain ⟨_, _, c0, c1, d0, d1⟩ := K2.out)
            | (go_at_call 16; have t0 := K2.out; refine (HE.out _ t0.t).mono ?_; rintro e w6 ⟨rfl, hb⟩; have K3 := Lib.hid (t0.below hb); clear hb t0 K2 c0 c1 d0 d1; obtain ⟨_, _, c0, c1, d0, d1⟩ := K3.out; have tk : True := trivial)
            | (go_at_call 17; have t0 := tk; refine (HC1.out _).mono ?_; rintro e w7 ⟨rfl, rfl⟩; clear tk t0)
            | (go_at_call 17; refine (HC2.out _).mono ?_; rintro e w8 ⟨rfl, rfl⟩))
          go_quiet (fail)
          go_wp2_with fail
          go_ret
          exact ⟨rfl, below_drewN K3.out.b _⟩
        · go_enter Tryd.func4, Tryd.ntmps4
          go_wp2_with (first
            | (go_at_call 9; have t0 := A.out; refine (HA.out _ t0.t).mono ?_; rintro e w1 ⟨rfl, hb⟩; have A1 := Lib.hid (t0.below hb); clear hb t0 A)
            | (go_at_call 14; have t0 := A1.out; refine (HO1.out _).mono ?_; rintro e w2 ⟨rfl, hb⟩; have A2 := Lib.hid (t0.below hb); clear hb t0 A1)
            | (go_at_call 14; have t0 := A2.out; refine (HO2.out _).mono ?_; rintro e w3 ⟨rfl, hb⟩; have K0 := Lib.hid (AK.new (r := r) (l := l) (r' := r') (l' := l') (t0.below hb)); obtain ⟨_, _, c0, c1, d0, d1⟩ := K0.out; clear hb t0 A2)
            | (go_at_call 15; have t0 := K0.out; refine (HP1.out _ t0.t).mono ?_; rintro e w4 ⟨rfl, hb⟩; have K1 := Lib.hid (t0.below hb); clear hb t0 K0 c0 c1 d0 d1; obtain ⟨_, _, c0, c1, d0, d1⟩ := K1.out)
            | (go_at_call 15; have t0 := K1.out; refine (HP2.out _ t0.t).mono ?_; rintro e w5 ⟨rfl, hb⟩; have K2 := Lib.hid (t0.below hb); clear hb t0 K1 c0 c1 d0 d1; obtain ⟨_, _, c0, c1, d0, d1⟩ := K2.out)
            | (go_at_call 16; have t0 := K2.out; refine (HE.out _ t0.t).mono ?_; rintro e w6 ⟨rfl, hb⟩; have K3 := Lib.hid (t0.below hb); clear hb t0 K2 c0 c1 d0 d1; obtain ⟨_, _, c0, c1, d0, d1⟩ := K3.out; have tk : True := trivial)
            | (go_at_call 17; have t0 := tk; refine (HC1.out _).mono ?_; rintro e w7 ⟨rfl, rfl⟩; clear tk t0)
            | (go_at_call 17; refine (HC2.out _).mono ?_; rintro e w8 ⟨rfl, rfl⟩))
          go_quiet (fail)
          go_wp2_with fail
          go_ret
          exact ⟨rfl, below_drewN K3.out.b _⟩
      · rw [b2] at Q2
        clear b2 Q3 Q4
        rcases hft with rfl | ⟨rfl, hten⟩
        · go_enter Tryd.func4, Tryd.ntmps4
          go_wp2_with (first
            | (go_at_call 9; have t0 := A.out; refine (HA.out _ t0.t).mono ?_; rintro e w1 ⟨rfl, hb⟩; have A1 := Lib.hid (t0.below hb); clear hb t0 A)
            | (go_at_call 14; have t0 := A1.out; refine (HO1.out _).mono ?_; rintro e w2 ⟨rfl, hb⟩; have A2 := Lib.hid (t0.below hb); clear hb t0 A1)
            | (go_at_call 14; have t0 := A2.out; refine (HO2.out _).mono ?_; rintro e w3 ⟨rfl, hb⟩; have K0 := Lib.hid (AK.new (r := r) (l := l) (r' := r') (l' := l') (t0.below hb)); obtain ⟨_, _, c0, c1, d0, d1⟩ := K0.out; clear hb t0 A2)
            | (go_at_call 15; have t0 := K0.out; refine (HP1.out _ t0.t).mono ?_; rintro e w4 ⟨rfl, hb⟩; have K1 := Lib.hid (t0.below hb); clear hb t0 K0 c0 c1 d0 d1; obtain ⟨_, _, c0, c1, d0, d1⟩ := K1.out)
            | (go_at_call 15; have t0 := K1.out; refine (HP2.out _ t0.t).mono ?_; rintro e w5 ⟨rfl, hb⟩; have K2 := Lib.hid (t0.below hb); clear hb t0 K1 c0 c1 d0 d1; obtain ⟨_, _, c0, c1, d0, d1⟩ := K2.out)
            | (go_at_call 16; have t0 := K2.out; refine (HE.out _ t0.t).mono ?_; rintro e w6 ⟨rfl, hb⟩; have K3 := Lib.hid (t0.below hb); clear hb t0 K2 c0 c1 d0 d1; obtain ⟨_, _, c0, c1, d0, d1⟩ := K3.out; have tk : True := trivial)
            | (go_at_call 17; have t0 := tk; refine (HC1.out _).mono ?_; rintro e w7 ⟨rfl, rfl⟩; clear tk t0)
            | (go_at_call 17; refine (HC2.out _).mono ?_; rintro e w8 ⟨rfl, rfl⟩))
          go_quiet (fail)
          go_wp2_with fail
          go_ret
          exact ⟨rfl, below_drewN K3.out.b _⟩
        · go_enter Tryd.func4, Tryd.ntmps4
          go_wp2_with (first
            | (go_at_call 9; have t0 := A.out; refine (HA.out _ t0.t).mono ?_; rintro e w1 ⟨rfl, hb⟩; have A1 := Lib.hid (t0.below hb); clear hb t0 A)
            | (go_at_call 14; have t0 := A1.out; refine (HO1.out _).mono ?_; rintro e w2 ⟨rfl, hb⟩; have A2 := Lib.hid (t0.below hb); clear hb t0 A1)
            | (go_at_call 14; have t0 := A2.out; refine (HO2.out _).mono ?_; rintro e w3 ⟨rfl, hb⟩; have K0 := Lib.hid (AK.new (r := r) (l := l) (r' := r') (l' := l') (t0.below hb)); obtain ⟨_, _, c0, c1, d0, d1⟩ := K0.out; clear hb t0 A2)
            | (go_at_call 15; have t0 := K0.out; refine (HP1.out _ t0.t).mono ?_; rintro e w4 ⟨rfl, hb⟩; have K1 := Lib.hid (t0.below hb); clear hb t0 K0 c0 c1 d0 d1; obtain ⟨_, _, c0, c1, d0, d1⟩ := K1.out)
            | (go_at_call 15; have t0 := K1.out; refine (HP2.out _ t0.t).mono ?_; rintro e w5 ⟨rfl, hb⟩; have K2 := Lib.hid (t0.below hb); clear hb t0 K1 c0 c1 d0 d1; obtain ⟨_, _, c0, c1, d0, d1⟩ := K2.out)
            | (go_at_call 16; have t0 := K2.out; refine (HE.out _ t0.t).mono ?_; rintro e w6 ⟨rfl, hb⟩; have K3 := Lib.hid (t0.below hb); clear hb t0 K2 c0 c1 d0 d1; obtain ⟨_, _, c0, c1, d0, d1⟩ := K3.out; have tk : True := trivial)
            | (go_at_call 17; have t0 := tk; refine (HC1.out _).mono ?_; rintro e w7 ⟨rfl, rfl⟩; clear tk t0)
            | (go_at_call 17; refine (HC2.out _).mono ?_; rintro e w8 ⟨rfl, rfl⟩))
          go_quiet (fail)
          go_wp2_with fail
          go_ret
          exact ⟨rfl, below_drewN K3.out.b _⟩
  · rw [decide_eq_false (fun e => h.2 e.2)] at Q1
    have e1 : (r == r') = true := by rw [beq_iff_eq]; exact h.1
    have e2 : (l == l') = false := by rw [beq_eq_false_iff_ne]; exact h.2
    clear h HUV
    rcases hb2 with ⟨b2, b3⟩ | b2
    · rw [b2] at Q2
      rw [b3] at Q3 Q4
      clear b2 b3
      rcases hft with rfl | ⟨rfl, hten⟩
      · go_enter Tryd.func4, Tryd.ntmps4
        go_wp2_with (first
          | (go_at_call 9; have t0 := A.out; refine (HA.out _ t0.t).mono ?_; rintro e w1 ⟨rfl, hb⟩; have A1 := Lib.hid (t0.below hb); clear hb t0 A)
          | (go_at_call 14; have t0 := A1.out; refine (HO1.out _).mono ?_; rintro e w2 ⟨rfl, hb⟩; have A2 := Lib.hid (t0.below hb); clear hb t0 A1)
          | (go_at_call 14; have t0 := A2.out; refine (HO2.out _).mono ?_; rintro e w3 ⟨rfl, hb⟩; have K0 := Lib.hid (AK.new (r := r) (l := l) (r' := r') (l' := l') (t0.below hb)); obtain ⟨_, _, c0, c1, d0, d1⟩ := K0.out; clear hb t0 A2)
          | (go_at_call 15; have t0 := K0.out; refine (HP1.out _ t0.t).mono ?_; rintro e w4 ⟨rfl, hb⟩; have K1 := Lib.hid (t0.below hb); clear hb t0 K0 c0 c1 d0 d1; obtain ⟨_, _, c0, c1, d0, d1⟩ := K1.out)
          | (go_at_call 15; have t0 := K1.out; refine (HP2.out _ t0.t).mono ?_; rintro e w5 ⟨rfl, hb⟩; have K2 := Lib.hid (t0.below hb); clear hb t0 K1 c0 c1 d0 d1; obtain ⟨_, _, c0, c1, d0, d1⟩ := K2.out)
          | (go_at_call 16; have t0 := K2.out; refine (HE.out _ t0.t).mono ?_; rintro e w6 ⟨rfl, hb⟩; have K3 := Lib.hid (t0.below hb); clear hb t0 K2 c0 c1 d0 d1; obtain ⟨_, _, c0, c1, d0, d1⟩ := K3.out; have tk : True := trivial)
          | (go_at_call 17; have t0 := tk; refine (HC1.out _).mono ?_; rintro e w7 ⟨rfl, rfl⟩; clear tk t0)
          | (go_at_call 17; refine (HC2.out _).mono ?_; rintro e w8 ⟨rfl, rfl⟩))
        go_quiet (fail)
        go_wp2_with fail
        go_ret
        exact ⟨rfl, below_drewN K3.out.b _⟩
      · go_enter Tryd.func4, Tryd.ntmps4
        go_wp2_with (first
          | (go_at_call 9; have t0 := A.out; refine (HA.out _ t0.t).mono ?_; rintro e w1 ⟨rfl, hb⟩; have A1 := Lib.hid (t0.below hb); clear hb t0 A)
          | (go_at_call 14; have t0 := A1.out; refine (HO1.out _).mono ?_; rintro e w2 ⟨rfl, hb⟩; have A2 := Lib.hid (t0.below hb); clear hb t0 A1)
          | (go_at_call 14; have t0 := A2.out; refine (HO2.out _).mono ?_; rintro e w3 ⟨rfl, hb⟩; have K0 := Lib.hid (AK.new (r := r) (l := l) (r' := r') (l' := l') (t0.below hb)); obtain ⟨_, _, c0, c1, d0, d1⟩ := K0.out; clear hb t0 A2)
          | (go_at_call 15; have t0 := K0.out; refine (HP1.out _ t0.t).mono ?_; rintro e w4 ⟨rfl, hb⟩; have K1 := Lib.hid (t0.below hb); clear hb t0 K0 c0 c1 d0 d1; obtain ⟨_, _, c0, c1, d0, d1⟩ := K1.out)
          | (go_at_call 15; have t0 := K1.out; refine (HP2.out _ t0.t).mono ?_; rintro e w5 ⟨rfl, hb⟩; have K2 := Lib.hid (t0.below hb); clear hb t0 K1 c0 c1 d0 d1; obtain ⟨_, _, c0, c1, d0, d1⟩ := K2.out)
          | (go_at_call 16; have t0 := K2.out; refine (HE.out _ t0.t).mono ?_; rintro e w6 ⟨rfl, hb⟩; have K3 := Lib.hid (t0.below hb); clear hb t0 K2 c0 c1 d0 d1; obtain ⟨_, _, c0, c1, d0, d1⟩ := K3.out; have tk : True := trivial)
          | (go_at_call 17; have t0 := tk; refine (HC1.out _).mono ?_; rintro e w7 ⟨rfl, rfl⟩; clear tk t0)
          | (go_at_call 17; refine (HC2.out _).mono ?_; rintro e w8 ⟨rfl, rfl⟩))
        go_quiet (fail)
        go_wp2_with fail
        go_ret
        exact ⟨rfl, below_drewN K3.out.b _⟩
    · rw [b2] at Q2
      clear b2 Q3 Q4
      rcases hft with rfl | ⟨rfl, hten⟩
      · go_enter Tryd.func4, Tryd.ntmps4
        go_wp2_with (first
          | (go_at_call 9; have t0 := A.out; refine (HA.out _ t0.t).mono ?_; rintro e w1 ⟨rfl, hb⟩; have A1 := Lib.hid (t0.below hb); clear hb t0 A)
          | (go_at_call 14; have t0 := A1.out; refine (HO1.out _).mono ?_; rintro e w2 ⟨rfl, hb⟩; have A2 := Lib.hid (t0.below hb); clear hb t0 A1)
          | (go_at_call 14; have t0 := A2.out; refine (HO2.out _).mono ?_; rintro e w3 ⟨rfl, hb⟩; have K0 := Lib.hid (AK.new (r := r) (l := l) (r' := r') (l' := l') (t0.below hb)); obtain ⟨_, _, c0, c1, d0, d1⟩ := K0.out; clear hb t0 A2)
          | (go_at_call 15; have t0 := K0.out; refine (HP1.out _ t0.t).mono ?_; rintro e w4 ⟨rfl, hb⟩; have K1 := Lib.hid (t0.below hb); clear hb t0 K0 c0 c1 d0 d1; obtain ⟨_, _, c0, c1, d0, d1⟩ := K1.out)
          | (go_at_call 15; have t0 := K1.out; refine (HP2.out _ t0.t).mono ?_; rintro e w5 ⟨rfl, hb⟩; have K2 := Lib.hid (t0.below hb); clear hb t0 K1 c0 c1 d0 d1; obtain ⟨_, _, c0, c1, d0, d1⟩ := K2.out)
          | (go_at_call 16; have t0 := K2.out; refine (HE.out _ t0.t).mono ?_; rintro e w6 ⟨rfl, hb⟩; have K3 := Lib.hid (t0.below hb); clear hb t0 K2 c0 c1 d0 d1; obtain ⟨_, _, c0, c1, d0, d1⟩ := K3.out; have tk : True := trivial)
          | (go_at_call 17; have t0 := tk; refine (HC1.out _).mono ?_; rintro e w7 ⟨rfl, rfl⟩; clear tk t0)
          | (go_at_call 17; refine (HC2.out _).mono ?_; rintro e w8 ⟨rfl, rfl⟩))
        go_quiet (fail)
        go_wp2_with fail
        go_ret
        exact ⟨rfl, below_drewN K3.out.b _⟩
      · go_enter Tryd.func4, Tryd.ntmps4
        go_wp2_with (first
          | (go_at_call 9; have t0 := A.out; refine (HA.out _ t0.t).mono ?_; rintro e w1 ⟨rfl, hb⟩; have A1 := Lib.hid (t0.below hb); clear hb t0 A)
          | (go_at_call 14; have t0 := A1.out; refine (HO1.out _).mono ?_; rintro e w2 ⟨rfl, hb⟩; have A2 := Lib.hid (t0.below hb); clear hb t0 A1)
          | (go_at_call 14; have t0 := A2.out; refine (HO2.out _).mono ?_; rintro e w3 ⟨rfl, hb⟩; have K0 := Lib.hid (AK.new (r := r) (l := l) (r' := r') (l' := l') (t0.below hb)); obtain ⟨_, _, c0, c1, d0, d1⟩ := K0.out; clear hb t0 A2)
          | (go_at_call 15; have t0 := K0.out; refine (HP1.out _ t0.t).mono ?_; rintro e w4 ⟨rfl, hb⟩; have K1 := Lib.hid (t0.below hb); clear hb t0 K0 c0 c1 d0 d1; obtain ⟨_, _, c0, c1, d0, d1⟩ := K1.out)
          | (go_at_call 15; have t0 := K1.out; refine (HP2.out _ t0.t).mono ?_; rintro e w5 ⟨rfl, hb⟩; have K2 := Lib.hid (t0.below hb); clear hb t0 K1 c0 c1 d0 d1; obtain ⟨_, _, c0, c1, d0, d1⟩ := K2.out)
          | (go_at_call 16; have t0 := K2.out; refine (HE.out _ t0.t).mono ?_; rintro e w6 ⟨rfl, hb⟩; have K3 := Lib.hid (t0.below hb); clear hb t0 K2 c0 c1 d0 d1; obtain ⟨_, _, c0, c1, d0, d1⟩ := K3.out; have tk : True := trivial)
          | (go_at_call 17; have t0 := tk; refine (HC1.out _).mono ?_; rintro e w7 ⟨rfl, rfl⟩; clear tk t0)
          | (go_at_call 17; refine (HC2.out _).mono ?_; rintro e w8 ⟨rfl, rfl⟩))
        go_quiet (fail)
        go_wp2_with fail
        go_ret
        exact ⟨rfl, below_drewN K3.out.b _⟩
end
end Cf
end Go.Proofs.YteigdcbaojmfgaaDoor
