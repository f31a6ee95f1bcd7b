/- macro.Check. -/
import Derived.Test.YtbmglemjfodfhaaGreatMgMc
import Derived.Deep.DeepCutAuto
set_option linter.unusedVariables false
set_option linter.unusedSimpArgs false
namespace Go.Proofs.YtbmglemjfodfhaaGreat
open Go.RowKit
namespace Bk
open Kd
instance (dc : Nat → Int) (nn : Nat → Nat) (r l : Nat → Nat → Int) (i : Bool) (k : Nat) : Decidable (okBs dc nn r l i k) := inferInstanceAs (Decidable (∀ j, j < k → bE (dc j) (nn j) (r j) (l j) i = 0))
def prt (x : Int) : Bool := decide (-15 ≤ x ∧ x ≤ 15)
abbrev mv (M : MB) (v : Value) : Value := .agg #[.int .i64 M.ad, .int .i64 M.kd, .int .i64 M.qt, .int .i64 M.x, .int .i64 M.y, .int .i64 M.pt, v]
def MB.bad1 (M : MB) : Bool := (kE M.kd != 0) || decide (M.ad < 1) || decide (33 < M.ad) || !prt M.x || !prt M.y || (!pV M.kd && ((M.x != 0) || (M.y != 0)))
def MB.qok (M : MB) : Bool := if pQ M.kd = true then (decide (1 ≤ M.qt) && decide (M.qt ≤ 31)) else M.qt == 0
def MB.most (M : MB) : Int := if (pI M.kd || pC M.kd) = true then 63 else 0
def MB.bad2 (M : MB) : Bool := !M.qok || decide (M.pt < 0) || decide (M.most < M.pt) || (pI M.kd && M.pt != 63) || (pC M.kd && M.pt == 0) || ((M.m : Int) != cntP M.pt 6)
def MB.okBs (M : MB) : Prop := Bk.okBs M.dc M.nn M.r M.l (pI M.kd) M.m
instance (M : MB) : Decidable M.okBs := inferInstanceAs (Decidable (Bk.okBs M.dc M.nn M.r M.l (pI M.kd) M.m))
def MB.e (M : MB) : Int := if M.bad1 = true then 2 else if M.bad2 = true then 2 else if M.okBs then 0 else 2
def MB.at (M : MB) (w : World) (v : Value) : Prop := Bsl w v M.m M.dc M.q M.nn M.cc M.r M.l
theorem MB.at.below {M : MB} {w w' : World} {v : Value} (h : M.at w v) (hb : Below w.heap.size w w') : M.at w' v := Bsl.below h hb
theorem mpart_prt (x : Int) (w : World) : Calls Tryz.prog 80 #[.int .i64 x] w fun e w' => e = .returned (.bool (prt x)) ∧ w = w' := mpart_any x w
set_option maxRecDepth 100000 in
set_option maxHeartbeats 4000000 in
theorem mCheck_any (M : MB) (v : Value) (w : World) (hs : M.at w v) :
    Calls Tryz.prog 41 #[mv M v] w fun e w' => e = .returned (.int .i64 M.e) ∧ Below w.heap.size w w' := by
  obtain ⟨qa, ca, hv, hmc, hcm, _⟩ := id hs
  have HS := Lib.hid hs
  have HO := Lib.hid (fun V v (h : M.at V v) (i : Bool) (hi : pI M.kd = i) (bp : Nat) (hc : V.cell? ⟨bp, 0, none⟩ = some (.bool i)) => ContainsFunc_any v M.m M.dc M.q M.nn M.cc M.r M.l i bp V h hc (!decide M.okBs) (by subst hi; exact (by simp : (!decide M.okBs) = false ↔ M.okBs)))
  have HE : Hid (M.e = if M.bad1 = true then 2 else if M.bad2 = true then 2 else if M.okBs then 0 else 2) := Lib.hid rfl
  have HOf := Lib.hid (fun V => Of_any M.kd V)
  have HX := Lib.hid (fun V => mpart_prt M.x V)
  have HY := Lib.hid (fun V => mpart_prt M.y V)
  have HC := Lib.hid (fun V => Count_any M.pt V)
  have bc := cntP_bd M.pt 6
  obtain ⟨B1, hB1⟩ : ∃ B, M.bad1 = B := ⟨_, rfl⟩
  obtain ⟨B2, hB2⟩ : ∃ B, M.bad2 = B := ⟨_, rfl⟩
  obtain ⟨OK, hOK⟩ : ∃ B, decide M.okBs = B := ⟨_, rfl⟩
  obtain ⟨E, hE⟩ : ∃ E, M.e = E := ⟨_, rfl⟩
  have H1 : Hid (M.bad1 = B1) := Lib.hid hB1
  have H2 : Hid (M.bad2 = B2) := Lib.hid hB2
  rw [hE, hB1, hB2] at HE
  have HK : Hid (OK = true ↔ M.okBs) := Lib.hid (by rw [← hOK]; simp)
  rw [hOK] at HO
  rw [hE]
  obtain ⟨ad, kd, qt, x, y, pt, m, dc, q, nn, cc, r, l⟩ := M
  dsimp only at *
  unfold parts at HOf
  obtain ⟨z1, h1⟩ : ∃ z, (kE kd != 0) = z := ⟨_, rfl⟩
  obtain ⟨z2, h2⟩ : ∃ z, decide (ad < 1) = z := ⟨_, rfl⟩
  obtain ⟨z3, h3⟩ : ∃ z, decide (33 < ad) = z := ⟨_, rfl⟩
  obtain ⟨z4, h4⟩ : ∃ z, prt x = z := ⟨_, rfl⟩
  obtain ⟨z5, h5⟩ : ∃ z, prt y = z := ⟨_, rfl⟩
  obtain ⟨z6, h6⟩ : ∃ z, pV kd = z := ⟨_, rfl⟩
  obtain ⟨z7, h7⟩ : ∃ z, (x != 0) = z := ⟨_, rfl⟩
  obtain ⟨z8, h8⟩ : ∃ z, (y != 0) = z := ⟨_, rfl⟩
  obtain ⟨zI, hI⟩ : ∃ z, pI kd = z := ⟨_, rfl⟩
  obtain ⟨zC, hC⟩ : ∃ z, pC kd = z := ⟨_, rfl⟩
  obtain ⟨zQ, hQ⟩ : ∃ z, pQ kd = z := ⟨_, rfl⟩
  obtain ⟨zF, hF⟩ : ∃ z, pF kd = z := ⟨_, rfl⟩
  obtain ⟨z9, h9⟩ : ∃ z, decide (1 ≤ qt) = z := ⟨_, rfl⟩
  obtain ⟨z10, h10⟩ : ∃ z, decide (qt ≤ 31) = z := ⟨_, rfl⟩
  obtain ⟨z11, h11⟩ : ∃ z, (qt == 0) = z := ⟨_, rfl⟩
  obtain ⟨z12, h12⟩ : ∃ z, decide (pt < 0) = z := ⟨_, rfl⟩
  obtain ⟨most, hmo⟩ : ∃ z : Int, (if (zI || zC) = true then 63 else 0) = z := ⟨_, rfl⟩
  obtain ⟨z13, h13⟩ : ∃ z, decide (most < pt) = z := ⟨_, rfl⟩
  obtain ⟨z14, h14⟩ : ∃ z, (pt != 63) = z := ⟨_, rfl⟩
  obtain ⟨z15, h15⟩ : ∃ z, (pt == 0) = z := ⟨_, rfl⟩
  obtain ⟨C, hCn⟩ : ∃ z, cntP pt 6 = z := ⟨_, rfl⟩
  obtain ⟨z16, h16⟩ : ∃ z, ((m : Int) != C) = z := ⟨_, rfl⟩
  obtain ⟨qok, hqo⟩ : ∃ z, (if zQ = true then (z9 && z10) else z11) = z := ⟨_, rfl⟩
  have K1 : Hid (B1 = (z1 || z2 || z3 || !z4 || !z5 || (!z6 && (z7 || z8)))) := Lib.hid (by rw [← H1.out]; unfold MB.bad1; dsimp only; rw [h1, h2, h3, h4, h5, h6, h7, h8])
  have K2 : Hid (B2 = (!qok || z12 || z13 || (zI && z14) || (zC && z15) || z16)) := Lib.hid (by rw [← H2.out]; unfold MB.bad2 MB.qok MB.most; dsimp only; rw [hI, hC, hQ, h9, h10, h11, hqo, hmo, h12, h13, h14, h15, hCn, h16])
  rw [hI, hQ, h6, hF, hC] at HOf
  rw [h4] at HX
  rw [h5] at HY
  rw [hCn] at HC
  have HZI := Lib.hid hI
  have HMO := Lib.hid hmo
  have HQO := Lib.hid hqo
  clear hmo hqo hI hC hQ hF h6 h4 h5 hCn bc H1 H2 hB1 hB2 hOK hE hs
  subst hv
  have HM := Lib.hid (At.new w #[.int .i64 ad, .int .i64 kd, .int .i64 qt, .int .i64 x, .int .i64 y, .int .i64 pt, .slice qa m ca] 24)
  have HB := Lib.hid ((Below.refl w.heap.size w).alloc (Nat.le_refl _) (.cells #[.int .i64 ad, .int .i64 kd, .int .i64 qt, .int .i64 x, .int .i64 y, .int .i64 pt, .slice qa m ca] 24))
  have HS := Lib.hid (HS.out.below HB.out)
  have k1 := HM.out.cell 1 _ rfl
  go_enter Tryz.func41, Tryz.ntmps41
  go_upto_region 1 with fail
  go_wp2_with fail
  refine (HOf.out _).mono ?_
  rintro e w1 ⟨rfl, b1⟩
  have HM := Lib.hid (HM.out.below b1)
  have HS := Lib.hid (HS.out.below b1)
  have HB := Lib.hid (chain HB.out b1)
  have HP := Lib.hid (At.new w1 #[.bool zI, .bool zQ, .bool z6, .bool zF, .bool zC] 67)
  have b2 := (Below.refl w1.heap.size w1).alloc (Nat.le_refl _) (.cells #[.bool zI, .bool zQ, .bool z6, .bool zF, .bool zC] 67)
  have HM := Lib.hid (HM.out.below b2)
  have HS := Lib.hid (HS.out.below b2)
  have HB := Lib.hid (chain HB.out b2)
  clear b1 b2 k1 HOf
  have k0 := HM.out.cell 0 _ rfl
  have k2 := HM.out.cell 2 _ rfl
  have k3 := HM.out.cell 3 _ rfl
  have k4 := HM.out.cell 4 _ rfl
  have k5 := HM.out.cell 5 _ rfl
  have k6 := HM.out.cell 6 _ rfl
  have p0 := HP.out.cell 0 _ rfl
  have p1 := HP.out.cell 1 _ rfl
  have p2 := HP.out.cell 2 _ rfl
  have p4 := HP.out.cell 4 _ rfl
  go_upto_region 2 with fail
  go_cut [52] (fun u wx => u = .bool B1 ∧ wx = w1.alloc (.cells #[.bool zI, .bool zQ, .bool z6, .bool zF, .bool zC] 67))
  case first =>
    have K1 := K1.out
    cases z1 with
    | true =>
      (go_wp2_with (first | (go_at_call 80; refine (HX.out _).mono ?_; rintro e v1 ⟨rfl, rfl⟩) | (go_at_call 80; refine (HY.out _).mono ?_; rintro e v1 ⟨rfl, rfl⟩)); go_meet; exact ⟨by rw [K1]; rfl, rfl⟩)
    | false =>
      cases z2 with
      | true =>
        (go_wp2_with (first | (go_at_call 80; refine (HX.out _).mono ?_; rintro e v1 ⟨rfl, rfl⟩) | (go_at_call 80; refine (HY.out _).mono ?_; rintro e v1 ⟨rfl, rfl⟩)); go_meet; exact ⟨by rw [K1]; rfl, rfl⟩)
      | false =>
        cases z3 with
        | true =>
          (go_wp2_with (first | (go_at_call 80; refine (HX.out _).mono ?_; rintro e v1 ⟨rfl, rfl⟩) | (go_at_call 80; refine (HY.out _).mono ?_; rintro e v1 ⟨rfl, rfl⟩)); go_meet; exact ⟨by rw [K1]; rfl, rfl⟩)
        | false =>
          cases z4 with
          | false =>
            (go_wp2_with (first | (go_at_call 80; refine (HX.out _).mono ?_; rintro e v1 ⟨rfl, rfl⟩) | (go_at_call 80; refine (HY.out _).mono ?_; rintro e v1 ⟨rfl, rfl⟩)); go_meet; exact ⟨by rw [K1]; rfl, rfl⟩)
          | true =>
            cases z5 with
            | false =>
              (go_wp2_with (first | (go_at_call 80; refine (HX.out _).mono ?_; rintro e v1 ⟨rfl, rfl⟩) | (go_at_call 80; refine (HY.out _).mono ?_; rintro e v1 ⟨rfl, rfl⟩)); go_meet; exact ⟨by rw [K1]; rfl, rfl⟩)
            | true =>
              cases z6 with
              | true =>
                (go_wp2_with (first | (go_at_call 80; refine (HX.out _).mono ?_; rintro e v1 ⟨rfl, rfl⟩) | (go_at_call 80; refine (HY.out _).mono ?_; rintro e v1 ⟨rfl, rfl⟩)); go_meet; exact ⟨by rw [K1]; rfl, rfl⟩)
              | false =>
                cases z7 with
                | true =>
                  (go_wp2_with (first | (go_at_call 80; refine (HX.out _).mono ?_; rintro e v1 ⟨rfl, rfl⟩) | (go_at_call 80; refine (HY.out _).mono ?_; rintro e v1 ⟨rfl, rfl⟩)); go_meet; exact ⟨by rw [K1]; rfl, rfl⟩)
                | false =>
                  (go_wp2_with (first | (go_at_call 80; refine (HX.out _).mono ?_; rintro e v1 ⟨rfl, rfl⟩) | (go_at_call 80; refine (HY.out _).mono ?_; rintro e v1 ⟨rfl, rfl⟩)); go_meet; exact ⟨by rw [K1]; rfl, rfl⟩)
  case rest =>
  obtain ⟨rfl, rfl⟩ := hcut
  clear h1 h2 h3 h7 h8 HX HY K1 k0 k3 k4
  cases B1 with
  | true =>
    have e2 : E = 2 := by rw [HE.out]; rfl
    go_wp2_with fail
    go_ret
    exact ⟨rfl, HB.out⟩
  | false =>
  go_upto_if 57 with fail
  go_cut [5] (fun u wx => u = .bool qok ∧ wx = w1.alloc (.cells #[.bool zI, .bool zQ, .bool z6, .bool zF, .bool zC] 67))
  case first =>
    have HQO := HQO.out
    cases zQ with
    | true =>
      cases z9 with
      | true => (go_wp2_with fail; go_meet; exact ⟨by rw [← HQO]; rfl, rfl⟩)
      | false => (go_wp2_with fail; go_meet; exact ⟨by rw [← HQO]; rfl, rfl⟩)
    | false => (go_wp2_with fail; go_meet; exact ⟨by rw [← HQO]; rfl, rfl⟩)
  case rest =>
  obtain ⟨rfl, rfl⟩ := hcut
  clear h9 h10 h11 HQO k2 p1
  go_upto_region 7 with fail
  go_cut [71] (fun u wx => u = .bool (zI || zC) ∧ wx = w1.alloc (.cells #[.bool zI, .bool zQ, .bool z6, .bool zF, .bool zC] 67))
  case first =>
    cases zI with
    | true => (go_wp2_with fail; go_meet; exact ⟨rfl, rfl⟩)
    | false => (go_wp2_with fail; go_meet; exact ⟨rfl, rfl⟩)
  case rest =>
  obtain ⟨rfl, rfl⟩ := hcut
  obtain ⟨IC, hIC⟩ : ∃ b, (zI || zC) = b := ⟨_, rfl⟩
  rw [hIC] at HMO
  rw [hIC]
  clear hIC
  go_upto_if 71 with fail
  go_cut [6] (fun u wx => u = .int .i64 most ∧ wx = w1.alloc (.cells #[.bool zI, .bool zQ, .bool z6, .bool zF, .bool zC] 67))
  case first =>
    have HMO := HMO.out
    cases IC with
    | true => (go_wp2_with fail; go_meet; exact ⟨by rw [← HMO]; rfl, rfl⟩)
    | false => (go_wp2_with fail; go_meet; exact ⟨by rw [← HMO]; rfl, rfl⟩)
  case rest =>
  obtain ⟨rfl, rfl⟩ := hcut
  go_wp2_with fail
  refine (HC.out _).mono ?_
  rintro e w2 ⟨rfl, b1⟩
  have HM := Lib.hid (HM.out.below b1)
  have HP := Lib.hid (HP.out.below b1)
  have HS := Lib.hid (HS.out.below b1)
  have HB := Lib.hid (chain HB.out b1)
  clear b1 HC k5 k6 p0 p2 p4
  have k5 := HM.out.cell 5 _ rfl
  have k6 := HM.out.cell 6 _ rfl
  have p0 := HP.out.cell 0 _ rfl
  have p4 := HP.out.cell 4 _ rfl
  go_upto_region 10 with fail
  go_cut [112] (fun u wx => u = .bool B2 ∧ wx = w2)
  case first =>
    have K2 := K2.out
    cases qok with
    | false =>
      (go_wp2_with fail; go_meet; exact ⟨by rw [K2]; rfl, rfl⟩)
    | true =>
      cases z12 with
      | true =>
        (go_wp2_with fail; go_meet; exact ⟨by rw [K2]; rfl, rfl⟩)
      | false =>
        cases z13 with
        | true =>
          (go_wp2_with fail; go_meet; exact ⟨by rw [K2]; rfl, rfl⟩)
        | false =>
          cases zI with
          | true =>
            cases z14 with
            | true =>
              (go_wp2_with fail; go_meet; exact ⟨by rw [K2]; rfl, rfl⟩)
            | false =>
              cases zC with
              | true =>
                cases z15 with
                | true =>
                  (go_wp2_with fail; go_meet; exact ⟨by rw [K2]; rfl, rfl⟩)
                | false =>
                  (go_wp2_with fail; go_meet; exact ⟨by rw [K2]; rfl, rfl⟩)
              | false =>
                (go_wp2_with fail; go_meet; exact ⟨by rw [K2]; rfl, rfl⟩)
          | false =>
            cases zC with
            | true =>
              cases z15 with
              | true =>
                (go_wp2_with fail; go_meet; exact ⟨by rw [K2]; rfl, rfl⟩)
              | false =>
                (go_wp2_with fail; go_meet; exact ⟨by rw [K2]; rfl, rfl⟩)
            | false =>
              (go_wp2_with fail; go_meet; exact ⟨by rw [K2]; rfl, rfl⟩)
  case rest =>
  obtain ⟨rfl, rfl⟩ := hcut
  clear h12 h13 h14 h15 h16 K2
  cases B2 with
  | true =>
    have e2 : E = 2 := by rw [HE.out]; rfl
    go_wp2_with fail
    go_ret
    exact ⟨rfl, HB.out⟩
  | false =>
  have HF := Lib.hid (HO.out _ _ HS.out zI HZI.out w1.heap.size p0)
  have eE : E = if OK = true then 0 else 2 := by
    rw [HE.out]
    by_cases ho : OK = true
    · rw [if_pos ho, if_neg (by decide), if_neg (by decide), if_pos (HK.out.1 ho)]
    · rw [if_neg ho, if_neg (by decide), if_neg (by decide), if_neg (fun h => ho (HK.out.2 h))]
  have EE := Lib.hid eE
  clear eE HO
  go_wp2_with fail
  refine HF.out.mono ?_
  rintro e w3 ⟨rfl, b1⟩
  have HB := Lib.hid (chain HB.out b1)
  clear b1
  cases OK with
  | true =>
    go_wp2_with fail
    go_ret
    exact ⟨by rw [EE.out]; rfl, HB.out⟩
  | false =>
    go_wp2_with fail
    go_ret
    exact ⟨by rw [EE.out]; rfl, HB.out⟩
end Bk
end Go.Proofs.YtbmglemjfodfhaaGreat
