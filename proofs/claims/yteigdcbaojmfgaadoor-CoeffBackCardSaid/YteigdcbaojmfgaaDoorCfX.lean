/- coeff.Get: escapes, the end. -/
import Derived.Test.YteigdcbaojmfgaaDoorCfV
namespace Go.Proofs.YteigdcbaojmfgaaDoor
open Go.RowKit Go.Shelf
attribute [local go_sem] Oper.semAt_some
set_option linter.unusedSimpArgs false
set_option linter.unusedVariables false
namespace Cf
section
set_option maxRecDepth 100000
set_option maxHeartbeats 4000000
set_option linter.unusedVariables false
def escB : List UInt8 := [48, 48, 48, 48, 48, 49]
/-- Get's own cells behind the bits were seen. -/
structure GX (B Bs : Nat) (w : World) (S : ByteArray) (V : World) : Prop where
  g : GR B w 0 0 false 0 0 V
  s : Boxed V Bs 9 (.string S)
  t : Tabs V
  b : B + 4 ≤ Bs
theorem GX.below {B Bs : Nat} {w : World} {x : ByteArray} {V V' : World} (h : GX B Bs w x V) (hb : Below V.heap.size V V') : GX B Bs w x V' :=
  ⟨h.g.below hb, h.s.kept (grown_of_below hb none) (by simp), h.t.below hb, h.b⟩
theorem GX.new {w V : World} (x : ByteArray) (hT : Tabs w) (h : GR w.heap.size w 0 0 false 0 0 V) : GX w.heap.size V.heap.size w x (V.alloc (.cells #[.string x] 9)) := by
  have hb : Below V.heap.size V (V.alloc (.cells #[.string x] 9)) := (Below.refl _ V).alloc (Nat.le_refl _) _
  exact ⟨h.below hb, Boxed.new V _ _, hT.below (h.below hb).bel, h.e.lt⟩
/-- the facts that the stores of the results want. -/
structure GF (B : Nat) (V : World) : Prop where
  r0 : V.frozen? ⟨B, 0, none⟩ = false
  r1 : V.frozen? ⟨B, 1, none⟩ = false
  x0 : V.frozen? ⟨B + 1, 0, none⟩ = false
  x1 : V.frozen? ⟨B + 2, 0, none⟩ = false
  x2 : V.frozen? ⟨B + 3, 0, none⟩ = false
  c0 : V.cell? ⟨B + 1, 0, none⟩ = some (.bool false)
  c1 : V.cell? ⟨B + 2, 0, none⟩ = some (.int .i64 0)
  c2 : V.cell? ⟨B + 3, 0, none⟩ = some (.int .i64 0)
  d0 : V.cell? ⟨B, 0, none⟩ = some (.int .i64 0)
  d1 : V.cell? ⟨B, 1, none⟩ = some (.int .i64 0)
theorem GR.facts {B : Nat} {w V : World} (G0 : GR B w 0 0 false 0 0 V) : GF B V :=
  ⟨frozen_of_row G0.p 0, frozen_of_row G0.p 1, G0.b.frozen, G0.n.frozen, G0.e.frozen, G0.b.cell, G0.n.cell, G0.e.cell, cell_row G0.p (i := 0) (v := .int .i64 0) rfl, cell_row G0.p (i := 1) (v := .int .i64 0) rfl⟩
theorem Get_more (a : Option Addr) (N c p : Nat) (f : Nat → Int) (first : Bool) (w : World) (x : List UInt8) (hN : N ≤ 1000000) (hp : p ≤ 8 * N) (hT : Tabs w)
    (HS : Hid (∀ W, Below w.heap.size w W → Calls Tryd.prog 28 #[.slice a N c, .int .i64 p] W fun e w' => e = .returned (sv x) ∧ Below W.heap.size W w')) (hx : x.length < 20) (hs : sameB x escB = true) :
    Calls Tryd.prog 11 #[.slice a N c, .int .i64 p, .bool first] w fun e w' => e = .returned (.tuple #[prV 0 0, .bool false, .int .i64 0, .int .i64 5]) ∧ Below w.heap.size w w' := by
  have G0 := Lib.hid (GR.new w 0 0 false 0 0)
  have HC := Lib.hid (fun V => Count_any a N c V hN)
  have HM := Lib.hid (fun V => same_any x escB V)
  rw [hs] at HM
  have n0 : ¬ (p : Int) < 0 := by omega
  have n1 : ¬ (p : Int) > 8 * (N : Int) := by omega
  have hz : (⟨x.toArray⟩ : ByteArray).size < 20 := hx
  have HNEW := Lib.hid (fun V h => GX.new (V := V) ⟨x.toArray⟩ hT h)
  unfold sv escB at *
  obtain ⟨S, hS⟩ : ∃ S : ByteArray, (⟨x.toArray⟩ : ByteArray) = S := ⟨_, rfl⟩
  rw [hS] at HS hz HM HNEW
  have HSH := Lib.hid hS
  have hz2 : ((S.size : Nat) : Int) < 20 := by omega
  clear hs hx hp hN hT hS hz
  go_enter Tryd.func11, Tryd.ntmps11
  go_wp2_with (first
    | (go_at_call 27; refine (HC.out _).mono ?_; rintro e w1 ⟨rfl, rfl⟩)
    | (go_at_call 28; refine (HS.out _ G0.out.bel).mono ?_; rintro e w2 ⟨rfl, h2⟩; have X0 := Lib.hid (HNEW.out _ (G0.out.below h2)); clear h2)
    | (go_at_call 29; refine (HM.out _).mono ?_; rintro e w3 ⟨rfl, h3⟩; have X1 := Lib.hid (X0.out.below h3); have s0 := X1.out.s.cell; obtain ⟨r0, r1, x0, x1, x2, c0, c1, c2, d0, d1⟩ := X1.out.g.facts; clear h3))
  have G := X1.out.g.set 0 0 false 0 5
  exact bodyPost_ret (results_get rfl _ rfl rfl rfl rfl G) rfl ⟨rfl, G.bel⟩
theorem Get_end (a : Option Addr) (N c p : Nat) (f : Nat → Int) (w : World) (x : List UInt8) (hN : N ≤ 1000000) (hp : p ≤ 8 * N) (hT : Tabs w)
    (HS : Hid (∀ W, Below w.heap.size w W → Calls Tryd.prog 28 #[.slice a N c, .int .i64 p] W fun e w' => e = .returned (sv x) ∧ Below W.heap.size W w')) (hs : sameB x escB = false) (he : ∃ y, x = [49, 48] ++ y) :
    Calls Tryd.prog 11 #[.slice a N c, .int .i64 p, .bool false] w fun e w' => e = .returned (.tuple #[prV 0 0, .bool true, .int .i64 2, .int .i64 0]) ∧ Below w.heap.size w w' := by
  have G0 := Lib.hid (GR.new w 0 0 false 0 0)
  have HC := Lib.hid (fun V => Count_any a N c V hN)
  have HM := Lib.hid (fun V => same_any x escB V)
  rw [hs] at HM
  have n0 : ¬ (p : Int) < 0 := by omega
  have n1 : ¬ (p : Int) > 8 * (N : Int) := by omega
  obtain ⟨y, hy⟩ := he
  have HPx := Lib.hid hy
  have HHP := Lib.hid (fun V => Tryd.strings_HasPrefix ⟨x.toArray⟩ ⟨#[49, 48]⟩ V)
  have ehp : Lib.hasPrefix (⟨x.toArray⟩ : ByteArray).data.toList (⟨#[49, 48]⟩ : ByteArray).data.toList = true := by rw [hy]; simp [Lib.hasPrefix]
  rw [ehp] at HHP
  clear ehp
  have HNEW := Lib.hid (fun V h => GX.new (V := V) ⟨x.toArray⟩ hT h)
  unfold sv escB at *
  obtain ⟨S, hS⟩ : ∃ S : ByteArray, (⟨x.toArray⟩ : ByteArray) = S := ⟨_, rfl⟩
  rw [hS] at HS HM HNEW HHP
  have HSH := Lib.hid hS
  clear hs hp hN hT hS hy
  go_enter Tryd.func11, Tryd.ntmps11
  go_wp2_with (first
    | (go_at_call 27; refine (HC.out _).mono ?_; rintro e w1 ⟨rfl, rfl⟩)
    | (go_at_call 28; refine (HS.out _ G0.out.bel).mono ?_; rintro e w2 ⟨rfl, h2⟩; have X0 := Lib.hid (HNEW.out _ (G0.out.below h2)); clear h2)
    | (go_at_call 29; refine (HM.out _).mono ?_; rintro e w3 ⟨rfl, h3⟩; have X1 := Lib.hid (X0.out.below h3); have s0 := X1.out.s.cell; obtain ⟨r0, r1, x0, x1, x2, c0, c1, c2, d0, d1⟩ := X1.out.g.facts; clear h3)
    | (go_at_call 31; refine (HHP.out _).mono ?_; rintro e w4 ⟨rfl, rfl⟩))
  have G := X1.out.g.set 0 0 true 2 0
  exact bodyPost_ret (results_get rfl _ rfl rfl rfl rfl G) rfl ⟨rfl, G.bel⟩
/-- the level of an escape. -/
def lv8 (L : List Bool) : Int := IntKind.i8.wrap (numL 0 (L.drop 12))
theorem i8_in (x : Int) : -128 ≤ IntKind.i8.wrap x ∧ IntKind.i8.wrap x < 128 := by
  have e1 : ((2 : Int) ^ IntKind.i8.bits) = 256 := rfl
  have e2 : ((2 : Int) ^ (IntKind.i8.bits - 1)) = 128 := rfl
  have e3 : IntKind.i8.signed = true := rfl
  simp only [IntKind.wrap, e1, e2, e3, Bool.true_and, decide_eq_true_eq]
  split <;> omega
theorem lv8_in (L : List Bool) (h : L.length = 20) : IntKind.i64.wrap (lv8 L) = lv8 L := IntWalk.i64_in _ (by have := i8_in (numL 0 (L.drop 12)); unfold lv8; omega)
theorem Get_esc (a : Option Addr) (N c p : Nat) (f : Nat → Int) (first : Bool) (w : World) (L : List Bool) (hN : N ≤ 1000000) (hp : p ≤ 8 * N) (hT : Tabs w)
    (HS : Hid (∀ W, Below w.heap.size w W → Calls Tryd.prog 28 #[.slice a N c, .int .i64 p] W fun e w' => e = .returned (sv (cs L)) ∧ Below W.heap.size W w')) (hx : L.length = 20) (hs : sameB (cs L) escB = true) :
    Calls Tryd.prog 11 #[.slice a N c, .int .i64 p, .bool first] w fun e w' => e = .returned (.tuple (if lv8 L = 0 ∨ lv8 L = -128 then #[prV 0 0, .bool false, .int .i64 0, .int .i64 10] else #[prV (numL 0 ((L.take 12).drop 6)) (lv8 L), .bool false, .int .i64 20, .int .i64 0])) ∧ Below w.heap.size w w' := by
  have G0 := Lib.hid (GR.new w 0 0 false 0 0)
  have HC := Lib.hid (fun V => Count_any a N c V hN)
  have HM := Lib.hid (fun V => same_any (cs L) escB V)
  rw [hs] at HM
  have n0 : ¬ (p : Int) < 0 := by omega
  have n1 : ¬ (p : Int) > 8 * (N : Int) := by omega
  have hz : (⟨(cs L).toArray⟩ : ByteArray).size = 20 := by rw [ba_size, cs_len, hx]
  have HN1 := Lib.hid (fun V => number_any (L.drop 12) (by intro h; have := congrArg List.length h; simp [hx] at this) (by simp [hx]) V)
  have HN2 := Lib.hid (fun V => number_any ((L.take 12).drop 6) (by intro h; have := congrArg List.length h; simp [hx] at this) (by simp [hx]) V)
  have ex1 : (⟨(cs L).toArray⟩ : ByteArray).extract 12 20 = ⟨(cs (L.drop 12)).toArray⟩ := by
    rw [ba_extract, List.take_of_length_le (by simp [cs, hx])]
    simp [cs]
  have ex2 : (⟨(cs L).toArray⟩ : ByteArray).extract 6 12 = ⟨(cs ((L.take 12).drop 6)).toArray⟩ := by
    rw [ba_extract]
    simp [cs]
  have hlv : IntKind.i8.wrap (numL 0 (L.drop 12)) = lv8 L := rfl
  have hlw : IntKind.i64.wrap (lv8 L) = lv8 L := lv8_in L hx
  have HNEW := Lib.hid (fun V h => GX.new (V := V) ⟨(cs L).toArray⟩ hT h)
  unfold sv escB at *
  obtain ⟨S, hS⟩ : ∃ S : ByteArray, (⟨(cs L).toArray⟩ : ByteArray) = S := ⟨_, rfl⟩
  rw [hS] at HS hz HM HNEW ex1 ex2
  have HSH := Lib.hid hS
  have hz2 : ((S.size : Nat) : Int) = 20 := by omega
  clear hs hx hp hN hT hS
  generalize lv8 L = Y at *
  generalize (numL 0 (L.drop 12) : Int) = X at *
  generalize (numL 0 ((L.take 12).drop 6) : Int) = R at *
  generalize (⟨(cs (L.drop 12)).toArray⟩ : ByteArray) = S1 at *
  generalize (⟨(cs ((L.take 12).drop 6)).toArray⟩ : ByteArray) = S2 at *
  by_cases h0 : Y = 0 ∨ Y = -128
  · rw [if_pos h0]
    rcases h0 with rfl | rfl
    · go_enter Tryd.func11, Tryd.ntmps11
      go_wp2_with (first
        | (go_at_call 27; refine (HC.out _).mono ?_; rintro e w1 ⟨rfl, rfl⟩)
        | (go_at_call 28; refine (HS.out _ G0.out.bel).mono ?_; rintro e w2 ⟨rfl, h2⟩; have X0 := Lib.hid (HNEW.out _ (G0.out.below h2)); clear h2)
        | (go_at_call_of 30 S1; refine (HN1.out _).mono ?_; rintro e w4 ⟨rfl, h4⟩; have X1 := Lib.hid (X1.out.below h4); have s0 := X1.out.s.cell; obtain ⟨r0, r1, x0, x1, x2, c0, c1, c2, d0, d1⟩ := X1.out.g.facts; clear h4)
        | (go_at_call_of 30 S2; refine (HN2.out _).mono ?_; rintro e w5 ⟨rfl, h5⟩; have X1 := Lib.hid (X1.out.below h5); have s0 := X1.out.s.cell; obtain ⟨r0, r1, x0, x1, x2, c0, c1, c2, d0, d1⟩ := X1.out.g.facts; clear h5)
        | (go_at_call 29; refine (HM.out _).mono ?_; rintro e w3 ⟨rfl, h3⟩; have X1 := Lib.hid (X0.out.below h3); have s0 := X1.out.s.cell; obtain ⟨r0, r1, x0, x1, x2, c0, c1, c2, d0, d1⟩ := X1.out.g.facts; clear h3))
      have G := X1.out.g.set 0 0 false 0 10
      exact bodyPost_ret (results_get rfl _ rfl rfl rfl rfl G) rfl ⟨rfl, G.bel⟩
    · go_enter Tryd.func11, Tryd.ntmps11
      go_wp2_with (first
        | (go_at_call 27; refine (HC.out _).mono ?_; rintro e w1 ⟨rfl, rfl⟩)
        | (go_at_call 28; refine (HS.out _ G0.out.bel).mono ?_; rintro e w2 ⟨rfl, h2⟩; have X0 := Lib.hid (HNEW.out _ (G0.out.below h2)); clear h2)
        | (go_at_call_of 30 S1; refine (HN1.out _).mono ?_; rintro e w4 ⟨rfl, h4⟩; have X1 := Lib.hid (X1.out.below h4); have s0 := X1.out.s.cell; obtain ⟨r0, r1, x0, x1, x2, c0, c1, c2, d0, d1⟩ := X1.out.g.facts; clear h4)
        | (go_at_call_of 30 S2; refine (HN2.out _).mono ?_; rintro e w5 ⟨rfl, h5⟩; have X1 := Lib.hid (X1.out.below h5); have s0 := X1.out.s.cell; obtain ⟨r0, r1, x0, x1, x2, c0, c1, c2, d0, d1⟩ := X1.out.g.facts; clear h5)
        | (go_at_call 29; refine (HM.out _).mono ?_; rintro e w3 ⟨rfl, h3⟩; have X1 := Lib.hid (X0.out.below h3); have s0 := X1.out.s.cell; obtain ⟨r0, r1, x0, x1, x2, c0, c1, c2, d0, d1⟩ := X1.out.g.facts; clear h3))
      have G := X1.out.g.set 0 0 false 0 10
      exact bodyPost_ret (results_get rfl _ rfl rfl rfl rfl G) rfl ⟨rfl, G.bel⟩
  · rw [if_neg h0]
    have y0 : (Y == 0) = false := by simp; omega
    have y1 : (Y == -128) = false := by simp; omega
    have z0 : ¬ Y = 0 := by omega
    have z1 : ¬ Y = -128 := by omega
    clear h0
    go_enter Tryd.func11, Tryd.ntmps11
    go_wp2_with (first
      | (go_at_call 27; refine (HC.out _).mono ?_; rintro e w1 ⟨rfl, rfl⟩)
      | (go_at_call 28; refine (HS.out _ G0.out.bel).mono ?_; rintro e w2 ⟨rfl, h2⟩; have X0 := Lib.hid (HNEW.out _ (G0.out.below h2)); clear h2)
      | (go_at_call_of 30 S1; refine (HN1.out _).mono ?_; rintro e w4 ⟨rfl, h4⟩; have X1 := Lib.hid (X1.out.below h4); have s0 := X1.out.s.cell; obtain ⟨r0, r1, x0, x1, x2, c0, c1, c2, d0, d1⟩ := X1.out.g.facts; clear h4)
      | (go_at_call_of 30 S2; refine (HN2.out _).mono ?_; rintro e w5 ⟨rfl, h5⟩; have X1 := Lib.hid (X1.out.below h5); have s0 := X1.out.s.cell; obtain ⟨r0, r1, x0, x1, x2, c0, c1, c2, d0, d1⟩ := X1.out.g.facts; clear h5)
      | (go_at_call 29; refine (HM.out _).mono ?_; rintro e w3 ⟨rfl, h3⟩; have X1 := Lib.hid (X0.out.below h3); have s0 := X1.out.s.cell; obtain ⟨r0, r1, x0, x1, x2, c0, c1, c2, d0, d1⟩ := X1.out.g.facts; clear h3))
    have G := X1.out.g.set R Y false 20 0
    exact bodyPost_ret (results_get rfl _ rfl rfl rfl rfl G) rfl ⟨rfl, G.bel⟩
end
end Cf
end Go.Proofs.YteigdcbaojmfgaaDoor
