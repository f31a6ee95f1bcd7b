/- PaintAll. -/
import Derived.Test.YtkeempljogjceaaPaD
import Derived.Test.YtkeempljogjceaaPaA
import Derived.Test.YtkeempljogjceaaScn
namespace Go.Proofs.Ytkeempljogjceaa
open Go.RowKit
namespace Pa
open Fr Pt

/-- two pictures, the first of them copied so far. -/
structure CS (n : Int) (gi gf N : Nat) (F : Nat → Int) (W wr : World) (G A : Int) : Prop where
  to : ∃ f, Arr wr .u8 gi N f ∧ Cop n F f G A
  from' : Arr wr .u8 gf N F
  bel : Below W.heap.size W wr
theorem part_sl2 {w : World} {g N : Nat} {F : Nat → Int} (h : Arr w .u8 g N F) (h0 : 0 < N) (hm : N ≤ maxLen) : Sl .u8 w (.slice (some ⟨g, 0, none⟩) N N) N F :=
  ⟨_, N, rfl, Nat.le_refl _, hm, .inr ⟨g, 0, rfl, h.lt h0, h.ints⟩⟩
theorem CS.copy {n : Int} {gi gf N : Nat} {F : Nat → Int} {W wr : World} {G A : Int} (h : CS n gi gf N F W wr G A) (h0 : W.heap.size ≤ gi) (hne : gi < gf) (hN : (N : Int) = zV n) (hc : cE n G A = 0) :
    Calls Try.prog 12 #[.slice (some ⟨gi, 0, none⟩) N N, .slice (some ⟨gf, 0, none⟩) N N, .agg #[.int .i64 n, .int .i64 G, .int .i64 A]] wr fun e w' => e = .returned (.int .i64 0) ∧ CS n gi gf N F W w' G (A + 1) := by
  obtain ⟨f, hA, hC⟩ := h.to
  refine (copy_yes gi N N N gf 0 N f F n G A wr hA (Nat.le_refl _) (Nat.le_refl _) h.from'.ints (Nat.le_refl _) (by omega) hc hN).mono ?_
  rintro e w' ⟨rfl, h1, h2⟩
  exact ⟨rfl, ⟨_, h1, hC.copy hc⟩, h.from'.grown h2 (fun e => by have := Option.some.inj e; omega), h.bel.grown h2 h.bel.size (fun b e => by have := Option.some.inj e; omega)⟩
theorem t_gt {G x : Int} (h : x < G) : decide (x < G) = true := decide_eq_true h
set_option maxRecDepth 100000 in
set_option maxHeartbeats 4000000 in
theorem PaintAll_any (fo sa sb sc : Int) (w : World) (_ : (Lit.int .i64 fo).wf = true) (_ : (Lit.int .i64 sa).wf = true) (_ : (Lit.int .i64 sb).wf = true) (_ : (Lit.int .i64 sc).wf = true) :
    Calls Try.prog 3 #[.int .i64 fo, .int .i64 sa, .int .i64 sb, .int .i64 sc] w fun e w' => e = .returned (.bool true) ∧ Below w.heap.size w w' := by
  obtain ⟨n, hn⟩ : ∃ n, fo % 2 = n := ⟨_, rfl⟩
  have hn01 : n = 0 ∨ n = 1 := by omega
  obtain ⟨N, hN⟩ : ∃ N : Nat, (N : Int) = zV n := ⟨(zV n).toNat, by rcases hn01 with rfl | rfl <;> rfl⟩
  have Nb : 38016 ≤ N ∧ N ≤ 152064 := by rcases hn01 with rfl | rfl <;> (have : (N : Int) = _ := hN; simp [zV] at this; omega)
  have Nm : N ≤ maxLen := Nat.le_trans Nb.2 (by decide)
  have HN1 := Lib.hid hn
  have H01 := Lib.hid hn01
  have HN := Lib.hid hN
  clear hn hn01 hN
  go_enter Try.func3, Try.ntmps3
  go_wp2_with fail
  refine (awake_any _).mono ?_
  rintro e w1 ⟨rfl, hb⟩
  have HB := Lib.hid hb
  clear hb
  go_wp2_with fail
  refine (Pick_any fo 2 _ (by omega) (by omega)).mono ?_
  rintro e w2 ⟨rfl, rfl⟩
  rw [HN1.out]
  go_wp2_with fail
  refine (Mo.Scene_any n sa sb N H01.out HN.out _).mono ?_
  rintro e w2 ⟨gi, f0, rfl, i1, i2, hA, h2⟩
  have HI := Lib.hid hA
  have z1 := HB.out.size
  have HB := Lib.hid (chain HB.out h2)
  clear hA h2
  go_wp2_with fail
  refine (Mo.Scene_any n sc sb N H01.out HN.out _).mono ?_
  rintro e w3 ⟨gf, F, rfl, i3, i4, hA, h3⟩
  have HC : Hid (CS n gi gf N F w w3 1 1) := Lib.hid ⟨⟨f0, HI.out.below h3 i2, Cop.start n H01.out F f0⟩, hA, chain HB.out h3⟩
  have l1 : w.heap.size ≤ gi := by omega
  have l2 : gi < gf := by omega
  clear hA h3 HB HI
  go_wp2_with fail
  go_loopw [12, 13] (fun x y wr => ∃ G : Int, 1 ≤ G ∧ G ≤ 13 ∧ x = .int .i64 G ∧ CS n gi gf N F w wr G 1) (fun x _ _ => (13 - intOf x).toNat)
  case atStart => exact ⟨1, by omega, by omega, rfl, HC.out⟩
  case round =>
    clear HC
    obtain ⟨G, hG1, hG2, rfl, hC⟩ := hrel
    by_cases hG : G ≤ 12
    · have dG : decide (G ≤ 12) = true := decide_eq_true hG
      by_cases hs : n = 0 ∧ (5 < G ∨ G % 2 = 0)
      · have hC' : CS n gi gf N F w wr (G + 1) 1 := ⟨by
          obtain ⟨f, h1, h2⟩ := hC.to
          obtain ⟨rfl, hs2⟩ := hs
          exact ⟨f, h1, h2.skip hs2⟩, hC.from', hC.bel⟩
        have HC := Lib.hid hC'
        obtain ⟨rfl, hs2⟩ := hs
        clear hC hC'
        by_cases h5 : 5 < G
        · have d5 : decide (5 < G) = true := decide_eq_true h5
          clear hs2
          go_wp2_with fail
          go_roundw
          case rel => exact ⟨G + 1, by omega, by omega, by go_num, HC.out⟩
          case measure => simp [intOf]; omega
        · have d5 : decide (5 < G) = false := decide_eq_false h5
          have e2 : G.tmod 2 = 0 := by rw [Int.tmod_eq_emod_of_nonneg (by omega)]; omega
          clear hs2
          go_wp2_with fail
          go_roundw
          case rel => exact ⟨G + 1, by omega, by omega, by go_num, HC.out⟩
          case measure => simp [intOf]; omega
      · have HIn := Lib.hid (fun A hA => in_group n G A H01.out ⟨hG1, hG⟩ hs hA)
        have HC := Lib.hid hC
        clear hC
        by_cases h0 : n = 0
        · have t0 : (n == 0) = true := by simpa using h0
          have d5 : decide (5 < G) = false := decide_eq_false (fun h => hs ⟨h0, .inl h⟩)
          have e2 : G.tmod 2 = 1 := by
            have e3 : G.tmod 2 = G % 2 := Int.tmod_eq_emod_of_nonneg (by omega)
            have : ¬ G % 2 = 0 := fun h => hs ⟨h0, .inr h⟩
            omega
          clear hs h0
          go_wp2_with fail
          go_loopw [13] (fun y wr => ∃ A : Int, 1 ≤ A ∧ A ≤ 34 ∧ y = .int .i64 A ∧ CS n gi gf N F w wr G A) (fun y _ => (34 - intOf y).toNat)
          case atStart => exact ⟨1, by omega, by omega, rfl, HC.out⟩
          case round =>
            clear HC
            obtain ⟨A, hA1, hA2, rfl, hC⟩ := hrel
            by_cases hA : A ≤ 33
            · have dA : decide (A ≤ 33) = true := decide_eq_true hA
              have HC := Lib.hid hC
              clear hC
              go_wp2_with (go_at_call 12; refine (CS.copy HC.out l1 l2 HN.out (HIn.out A ⟨hA1, hA⟩)).mono ?_; rintro e w7 ⟨rfl, hC7⟩; have HC := Lib.hid hC7; clear hC7)
              go_roundw
              case rel => exact ⟨A + 1, by omega, by omega, by go_num, HC.out⟩
              case measure => simp [intOf]; omega
            · have dA : decide (A ≤ 33) = false := decide_eq_false hA
              have HC : Hid (CS n gi gf N F w wr (G + 1) 1) := Lib.hid (by
                obtain rfl : A = 34 := by omega
                obtain ⟨f, h1, h2⟩ := hC.to
                exact ⟨⟨f, h1, h2.next⟩, hC.from', hC.bel⟩)
              clear hC
              go_wp2_with fail
              go_roundw
              case rel => exact ⟨G + 1, by omega, by omega, by go_num, HC.out⟩
              case measure => simp [intOf]; omega
        · have t0 : (n == 0) = false := by simpa using h0
          clear hs h0
          go_wp2_with fail
          go_loopw [13] (fun y wr => ∃ A : Int, 1 ≤ A ∧ A ≤ 34 ∧ y = .int .i64 A ∧ CS n gi gf N F w wr G A) (fun y _ => (34 - intOf y).toNat)
          case atStart => exact ⟨1, by omega, by omega, rfl, HC.out⟩
          case round =>
            clear HC
            obtain ⟨A, hA1, hA2, rfl, hC⟩ := hrel
            by_cases hA : A ≤ 33
            · have dA : decide (A ≤ 33) = true := decide_eq_true hA
              have HC := Lib.hid hC
              clear hC
              go_wp2_with (go_at_call 12; refine (CS.copy HC.out l1 l2 HN.out (HIn.out A ⟨hA1, hA⟩)).mono ?_; rintro e w7 ⟨rfl, hC7⟩; have HC := Lib.hid hC7; clear hC7)
              go_roundw
              case rel => exact ⟨A + 1, by omega, by omega, by go_num, HC.out⟩
              case measure => simp [intOf]; omega
            · have dA : decide (A ≤ 33) = false := decide_eq_false hA
              have HC : Hid (CS n gi gf N F w wr (G + 1) 1) := Lib.hid (by
                obtain rfl : A = 34 := by omega
                obtain ⟨f, h1, h2⟩ := hC.to
                exact ⟨⟨f, h1, h2.next⟩, hC.from', hC.bel⟩)
              clear hC
              go_wp2_with fail
              go_roundw
              case rel => exact ⟨G + 1, by omega, by omega, by go_num, HC.out⟩
              case measure => simp [intOf]; omega
    · have hG' : 12 < G := by omega
      have dG : decide (G ≤ 12) = false := decide_eq_false hG
      obtain rfl : G = 13 := by omega
      have HA := Lib.hid hC
      clear hC
      obtain ⟨f, hf, hcop⟩ := HA.out.to
      have HS := Lib.hid (part_sl2 hf (by omega) Nm)
      have HT := Lib.hid (part_sl2 HA.out.from' (by omega) Nm)
      have HE := Lib.hid (fun i (hi : i < N) => hcop.all H01.out i (by have := HN.out; omega))
      clear hf hcop
      go_wp2_with fail
      refine (SameBytes_true _ _ _ _ _ _ HS.out HT.out HE.out).mono ?_
      rintro e w7 ⟨rfl, rfl⟩
      go_wp2_with fail
      go_ret
      exact ⟨rfl, HA.out.bel⟩
end Pa
end Go.Proofs.Ytkeempljogjceaa
