/- paint: the document's answer: numbers cut; samples and residues put together. -/
import Derived.Test.YtkeempljogjceaaPa1
import Derived.Test.YtkeempljogjceaaMo5
import Derived.Test.YtkeempljogjceaaRegSt
import Derived.BigQuiet
import Derived.LoopNIn
import Derived.LoopIn
import Derived.TacticsInMore
namespace Go.Proofs.Ytkeempljogjceaa
open Go.RowKit
attribute [local go_sem] Oper.semAt_some
namespace Pa
open Mo

theorem rClip_any (n : Int) (w : World) : Calls Try.prog 21 #[.int .i64 n] w fun e w' => e = .returned (.int .u8 (clipF n)) ∧ w = w' := by
  have mn := fun w' => Lib.run_min_ints (P := Try.prog) w' #[3, 3] 3 .i64 .i64 (max n 0) 255
  have mx := fun w' => Lib.run_max_ints (P := Try.prog) w' #[3, 3] 3 .i64 .i64 n 0
  obtain ⟨m, hm⟩ : ∃ m, min (max n 0) 255 = m := ⟨_, rfl⟩
  have hb := clip_bd n
  have e0 : clipF n = m := by rw [← hm]; unfold clipF; omega
  have HM := Lib.hid e0
  have hb : 0 ≤ m ∧ m ≤ 255 := by rw [← e0]; exact hb
  simp only [hm] at mn
  clear hm e0
  go_enter Try.func21, Try.ntmps21
  go_wp2
  go_ret
  exact ⟨by rw [HM.out]; rfl, rfl⟩
theorem radd_no1 (a1 a2 : Option Addr) (N c1 M c2 : Nat) (g : Nat → Int) (w : World) (h : N ≠ 64) :
    Calls Try.prog 17 #[.slice a1 N c1, .slice a2 M c2] w fun e w' => e = .returned (.tuple #[.slice none 0 0, .int .i64 (addE N M g)]) ∧ w = w' := by
  have E : Hid (addE N M g = 2) := Lib.hid (by unfold addE; rw [if_pos (.inl h)])
  have t1 : ((N : Int) != 64) = true := by simp; omega
  clear h
  go_enter Try.func17, Try.ntmps17
  go_wp2_with fail
  go_ret2
  exact ⟨by rw [E.out]; rfl, rfl⟩
theorem radd_no2 (a1 a2 : Option Addr) (c1 M c2 : Nat) (g : Nat → Int) (w : World) (h : M ≠ 64) :
    Calls Try.prog 17 #[.slice a1 64 c1, .slice a2 M c2] w fun e w' => e = .returned (.tuple #[.slice none 0 0, .int .i64 (addE 64 M g)]) ∧ w = w' := by
  have E : Hid (addE 64 M g = 2) := Lib.hid (by unfold addE; rw [if_pos (.inr h)])
  have t1 : ((M : Int) != 64) = true := by simp; omega
  clear h
  go_enter Try.func17, Try.ntmps17
  go_wp2_with fail
  go_ret2
  exact ⟨by rw [E.out]; rfl, rfl⟩
set_option maxRecDepth 100000 in
theorem radd_yes (b1 o1 c1 b2 o2 c2 : Nat) (f g : Nat → Int) (w : World) (h1 : Ints w .u8 b1 o1 64 f) (h2 : Ints w .i64 b2 o2 64 g) (bf : ∀ i, i < 64 → 0 ≤ f i ∧ f i ≤ 255) :
    Calls Try.prog 17 #[.slice (some ⟨b1, o1, none⟩) 64 c1, .slice (some ⟨b2, o2, none⟩) 64 c2] w fun e w' => ∃ v, e = .returned (.tuple #[v, .int .i64 (addE 64 64 g)]) ∧ Res .u8 w.heap.size w' v (addN 64 64 g) (addF f g) ∧ Below w.heap.size w w' := by
  obtain ⟨i0, hi, hz0, hz1, hz2⟩ := info_parts info_byte
  have H1 := Lib.hid h1
  have H2 := Lib.hid h2
  have BF := Lib.hid bf
  clear h1 h2 bf
  refine (callsIn_wide (n := 12)).1 ?_
  refine callsIn_of_wp Try.func17 rfl trivial ?_ rfl
  simp only [Try.ntmps17, List.size_toArray, List.length_cons, List.length_nil, Nat.reduceAdd, Nat.reduceSub, Array.replicate_succ, Array.replicate_zero, List.push_toArray, List.append_toArray, List.nil_append, List.cons_append]
  gi_wp2
  gi_loopw [6, 7] (fun v i wr => ∃ k : Nat, k ≤ 64 ∧ i = .int .i64 k ∧ okR g k ∧ wr.ownsRow w.heap.size 5 1 v k ((List.range k).map fun j => .int .u8 (addF f g j)) ∧ Below w.heap.size w wr) (fun _ i _ => 64 - (intOf i).toNat)
  case atStart => exact ⟨0, by omega, rfl, fun i hi => by omega, World.ownsRow_nil _ _ _ _, Below.refl _ _⟩
  case round =>
    obtain ⟨k, hk, rfl, hok, hown, hB⟩ := hrel
    have OK := Lib.hid hok
    have OWN := Lib.hid hown
    have HB := Lib.hid hB
    have sz := hB.size
    clear hok hown hB
    by_cases hkn : k < 64
    · have e1 := (H1.out.below HB.out (H1.out.lt (by omega))) k hkn
      have e2 := (H2.out.below HB.out (H2.out.lt (by omega))) k hkn
      have bf := BF.out k hkn
      have b1 : (0 : Int) ≤ (k : Int) ∧ (k : Int) < 64 := by omega
      by_cases l1 : g k < -1048576
      · have E : Hid (addE 64 64 g = 3) := Lib.hid (by unfold addE; rw [if_neg (by omega), if_neg (fun h => by have := h k hkn; omega)])
        gi_wp2
        go_ret2
        exact ⟨_, by rw [E.out]; rfl, .inl ⟨by unfold addN; rw [E.out]; rfl, rfl⟩, HB.out⟩
      · by_cases l2 : 1048576 < g k
        · have E : Hid (addE 64 64 g = 3) := Lib.hid (by unfold addE; rw [if_neg (by omega), if_neg (fun h => by have := h k hkn; omega)])
          gi_wp2
          go_ret2
          exact ⟨_, by rw [E.out]; rfl, .inl ⟨by unfold addN; rw [E.out]; rfl, rfl⟩, HB.out⟩
        · have OK2 : Hid (okR g (k + 1)) := Lib.hid (fun i hi => by
            by_cases e : i = k
            · subst e; omega
            · exact OK.out i (by omega))
          obtain ⟨y, hy⟩ : ∃ y, f k + g k = y := ⟨_, rfl⟩
          obtain ⟨x, hx⟩ : ∃ x, clipF y = x := ⟨_, rfl⟩
          have HX : Hid (addF f g k = x) := Lib.hid (by unfold addF; rw [hy, hx])
          have wy : IntKind.i64.wrap (f k + g k) = y := by rw [hy]; exact IntWalk.i64_in _ (by omega)
          have wx : IntKind.i64.wrap (f k) = f k := IntWalk.i64_in _ (by omega)
          have CL : ∀ w, Calls Try.prog 21 #[.int .i64 y] w fun e w' => e = .returned (.int .u8 x) ∧ w = w' := fun w => by rw [← hx]; exact rClip_any y w
          have dk : decide ((k : Int) < 64) = true := by simp; omega
          clear hx hy
          gi_wp2
          have p1 := Past.cell e1
          have p2 := Past.cell e2
          refine regionIn_float (v := u6) 12 (by kernel_rfl) (by kernel_rfl) rfl rfl rfl (Or.inl ⟨rfl, fun w' ⟨x2, hx2⟩ => by subst hx2; go_simp⟩) ?_
          simp only [List.take_succ_cons, List.take_zero, List.drop_succ_cons, List.drop_zero]
          simp only [Act.put, List.setIfInBounds_toArray, List.set_cons_zero, List.set_cons_succ]
          repeat (go_big_quiet_step ((go_at_call 21; exact past_call ((CL _).mono fun _ _ ⟨h1, h2⟩ => ⟨h1, by subst h2; exact Below.refl _ _⟩))))
          refine wpQuiet_nil ?_
          rintro wd ⟨⟨_, h5⟩, rfl⟩
          rename_i wd
          refine ⟨fun _ _ => trivial, ?_⟩
          go_simp
          refine ⟨⟨⟨_, h5.alloc h5.size _⟩, rfl⟩, ?_⟩
          have OWd : Hid (wd.ownsRow w.heap.size 5 1 u6 k ((List.range k).map fun j => .int .u8 (addF f g j))) := Lib.hid (own_past OWN.out h5)
          have HBd : Hid (Below w.heap.size w wd) := Lib.hid (HB.out.trans (h5.mono sz))
          have szd : w.heap.size ≤ wd.heap.size := HBd.out.size
          clear CL wy wx p1 p2 h5
          gi_wp2_with (gi_at_builtin; refine wpListIn_append_own _ rfl _ _ 24 rfl w.heap.size 5 i0 (.int .u8 0) 1 1 Try.underlying24 hi hz0 hz1 hz2 rfl (by decide) u6 _ _ rfl (OWd.out.alloc _) ⟨wd.heap.size, 0, none⟩ 1 1 [.int .u8 x] rfl rfl (cell_one_new _ _ _) (by simp [Value.oneCell']) (by unfold maxLen; omega) (by omega) (by simp; omega) ?_; intro v' w1 hown2 hgr hnil)
          simp only [onlyN]
          have hB1 : Below w.heap.size w w1 := (HBd.out.alloc szd (.cells #[.int .u8 x] 5)).grown hgr (by simp; omega) (fun q hq => (OWd.out.lt q hq).1)
          have hown3 : w1.ownsRow w.heap.size 5 1 v' (k + 1) ((List.range (k + 1)).map fun j => .int .u8 (addF f g j)) := by rw [← range_snoc, HX.out]; exact hown2
          have OW3 := Lib.hid hown3
          have HB1 := Lib.hid hB1
          clear hown2 hgr hnil hown3 hB1
          gi_wp2
          go_roundw
          case rel => exact ⟨k + 1, by omega, by go_num, OK2.out, OW3.out, HB1.out⟩
          case measure => simp [intOf]; omega
    · obtain rfl : k = 64 := by omega
      have E : Hid (addE 64 64 g = 0) := Lib.hid (by unfold addE; rw [if_neg (by omega), if_pos OK.out])
      gi_wp2
      go_ret2
      exact ⟨_, by rw [E.out]; rfl, by unfold addN; rw [E.out, if_pos rfl]; exact Res.of_own OWN.out, HB.out⟩
theorem rAdd_any (va vb : Value) (N M : Nat) (f g : Nat → Int) (w : World) (h1 : Sl .u8 w va N f) (h2 : Sl .i64 w vb M g) (bf : ∀ i, i < N → 0 ≤ f i ∧ f i ≤ 255) :
    Calls Try.prog 17 #[va, vb] w fun e w' => ∃ v, e = .returned (.tuple #[v, .int .i64 (addE N M g)]) ∧ Res .u8 w.heap.size w' v (addN N M g) (addF f g) ∧ Below w.heap.size w w' := by
  obtain ⟨a1, c1, rfl, _, _, d1⟩ := h1
  obtain ⟨a2, c2, rfl, _, _, d2⟩ := h2
  by_cases hN : N = 64
  · by_cases hM : M = 64
    · subst hN hM
      rcases d1 with ⟨h0, _⟩ | ⟨b1, o1, rfl, _, i1⟩
      · omega
      · rcases d2 with ⟨h0, _⟩ | ⟨b2, o2, rfl, _, i2⟩
        · omega
        · exact radd_yes _ _ _ _ _ _ _ _ _ i1 i2 bf
    · subst hN
      refine (radd_no2 a1 a2 c1 M c2 g w hM).mono ?_
      rintro e w' ⟨rfl, rfl⟩
      exact ⟨_, rfl, .inl ⟨by unfold addN; rw [show addE 64 M g = 2 by unfold addE; rw [if_pos (.inr hM)]]; rfl, rfl⟩, Below.refl _ _⟩
  · refine (radd_no1 a1 a2 N c1 M c2 g w hN).mono ?_
    rintro e w' ⟨rfl, rfl⟩
    exact ⟨_, rfl, .inl ⟨by unfold addN; rw [show addE N M g = 2 by unfold addE; rw [if_pos (.inl hN)]]; rfl, rfl⟩, Below.refl _ _⟩
set_option maxRecDepth 100000 in
theorem rFlat_any (vb : Value) (M : Nat) (g : Nat → Int) (w : World) (h2 : Sl .i64 w vb M g) :
    Calls Try.prog 19 #[vb] w fun e w' => ∃ v, e = .returned (.tuple #[v, .int .i64 (addE 64 M g)]) ∧ Res .u8 w.heap.size w' v (addN 64 M g) (addF (fun _ => 0) g) ∧ Below w.heap.size w w' := by
  have H2 := Lib.hid h2
  obtain ⟨a2, c2, rfl, _, _, _⟩ := h2
  obtain ⟨i0, hi, hz0, hz1, hz2⟩ := info_parts info_byte
  go_enter Try.func19, Try.ntmps19
  go_wp2_with (first
    | (refine wpList_make_full w rfl _ _ 24 rfl w.heap.size 5 i0 (.int .u8 0) 1 Try.underlying24 hi hz0 hz1 .i64 .i64 _ _ 64 rfl rfl rfl rfl (by rw [hz2]; omega) (by unfold maxLen; omega) (Nat.le_refl _) ?_; intro w1 hown hgr; have HA := Lib.hid (made_sl hown); have HB := Lib.hid ((Below.refl w.heap.size w).grown hgr (Nat.le_refl _) (fun _ e => by cases e)); clear hown hgr)
    | (go_at_call 17; refine (rAdd_any _ _ 64 M (fun _ => 0) g _ HA.out.sl (H2.out.below HB.out) (fun _ _ => by omega)).mono ?_; rintro e w2 ⟨v, rfl, hR, hB⟩; have HR := Lib.hid hR; have HC := Lib.hid (HB.out.trans (hB.mono HB.out.size)); have sz := HB.out.size; clear hR hB))
  go_ret2
  refine ⟨_, rfl, ?_, HC.out⟩
  have := HR.out
  rcases this with h | ⟨g', c, h1, h2, h3⟩
  · exact .inl h
  · exact .inr ⟨g', c, h1, by omega, h3⟩
end Pa
end Go.Proofs.Ytkeempljogjceaa
