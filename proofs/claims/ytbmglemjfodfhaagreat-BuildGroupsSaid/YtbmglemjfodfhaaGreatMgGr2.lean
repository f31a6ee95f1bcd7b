/- build.refuses: why a group is not built. -/
import Derived.Test.YtbmglemjfodfhaaGreatMgBu3
import Derived.Test.YtbmglemjfodfhaaGreatMgGr3
import Derived.Test.YtbmglemjfodfhaaGreatMgNxt2
set_option linter.unusedVariables false
set_option linter.unusedSimpArgs false
namespace Go.Proofs.YtbmglemjfodfhaaGreat
open Go.RowKit
namespace Bl
open Bk Fr Pt Kd Bu
def gB3 (G : GB) (n : Int) (N NF : Nat) : Prop := (N : Int) ≠ zV n ∨ (0 < NF ∧ (NF : Int) ≠ zV n) ∨ G.qt < 1 ∨ 31 < G.qt
instance (G : GB) (n : Int) (N NF : Nat) : Decidable (gB3 G n N NF) := inferInstanceAs (Decidable (_ ∨ _))
def gE (G : GB) (n : Int) (N NF : Nat) : Int :=
  if fE n ≠ 0 then fE n else if Nx.nEr n G.num ≠ 0 ∨ G.num = 0 then 8 else if gB3 G n N NF then 2 else if ¬ rise G.Ms G.m then 2 else if ¬ fits n G.num G.Ms G.m then 12 else 0
section
set_option maxRecDepth 100000
set_option maxHeartbeats 8000000
set_option linter.unusedVariables false
theorem refuses_any (G : GB) (mvv : Value) (ta fa : Option Addr) (N tc NF fc : Nat) (n : Int) (w : World) (hms : Gsl w mvv G.m G.Ms G.vb) (hsh : ∀ j, j < G.m → Short (G.Ms j)) :
    Calls Tryz.prog 75 #[.slice ta N tc, .slice fa NF fc, .int .i64 n, gv G mvv] w fun e w' => e = .returned (.int .i64 (gE G n N NF)) ∧ Below w.heap.size w w' := by
  have HB := Lib.hid ((Below.refl w.heap.size w).alloc (Nat.le_refl _) (.cells #[.int .i64 G.num, .int .i64 G.qt, .slice G.sa G.sN G.sc, mvv] 56))
  have H1 : Hid (At _ _ _ _) := Lib.hid (At.new w #[.int .i64 G.num, .int .i64 G.qt, .slice G.sa G.sN G.sc, mvv] 56)
  have HR := Lib.hid (hms.below HB.out)
  have HSH := Lib.hid hsh
  clear hms hsh
  obtain ⟨a, c, hv, h1, h2, h3⟩ := HR.out
  subst hv
  have H3 := Lib.hid h3
  clear HR h3
  have HS := Lib.hid (fun V => Size_any n V)
  have HNx := Lib.hid (fun V => Nx.Next_any n G.num V)
  have E1 : Hid (fE n ≠ 0 → gE G n N NF = fE n) := Lib.hid (fun h => by unfold gE; rw [if_pos h])
  have E2 : Hid (fE n = 0 → (Nx.nEr n G.num ≠ 0 ∨ G.num = 0) → gE G n N NF = 8) := Lib.hid (fun h h2 => by unfold gE; rw [if_neg (by omega), if_pos h2])
  have E3 : Hid (fE n = 0 → ¬ (Nx.nEr n G.num ≠ 0 ∨ G.num = 0) → gB3 G n N NF → gE G n N NF = 2) := Lib.hid (fun h h2 h3 => by unfold gE; rw [if_neg (by omega), if_neg h2, if_pos h3])
  have E4 : Hid (fE n = 0 → ¬ (Nx.nEr n G.num ≠ 0 ∨ G.num = 0) → ¬ gB3 G n N NF → gE G n N NF = if ¬ rise G.Ms G.m then 2 else if ¬ fits n G.num G.Ms G.m then 12 else 0) := Lib.hid (fun h h2 h3 => by unfold gE; rw [if_neg (by omega), if_neg h2, if_neg h3])
  obtain ⟨R, hR⟩ : ∃ R, gE G n N NF = R := ⟨_, rfl⟩
  rw [hR] at E1 E2 E3 E4
  rw [hR]
  clear hR
  obtain ⟨EF, hEF⟩ : ∃ x, fE n = x := ⟨_, rfl⟩
  obtain ⟨EN, hEN⟩ : ∃ x, Nx.nEr n G.num = x := ⟨_, rfl⟩
  rw [hEF] at E1 E2 E3 E4 HS
  rw [hEN] at E2 E3 E4 HNx
  have H7 : Hid (gB3 G n N NF ↔ ((N : Int) ≠ zV n ∨ (0 < NF ∧ (NF : Int) ≠ zV n) ∨ G.qt < 1 ∨ 31 < G.qt)) := Lib.hid Iff.rfl
  obtain ⟨Z, hZ⟩ : ∃ x, zV n = x := ⟨_, rfl⟩
  rw [hZ] at HS H7
  clear hEF hEN hZ
  go_enter Tryz.func75, Tryz.ntmps75
  go_upto_region 1 with fail
  generalize w.alloc (.cells #[.int .i64 G.num, .int .i64 G.qt, .slice G.sa G.sN G.sc, .slice a G.m c] 56) = W1 at *
  have K0 := Lib.hid H1.out
  have HB00 := Lib.hid HB.out
  by_cases h0 : EF = 0
  case neg =>
    have t0 : (EF != 0) = true := by simpa using h0
    have E := Lib.hid (E1.out h0)
    clear h0 E1 E2 E3 E4
    go_wp2_with (go_at_call 73; refine (HS.out _).mono ?_; rintro e w1 ⟨rfl, rfl⟩)
    go_ret
    exact ⟨by rw [E.out]; rfl, HB.out⟩
  case pos =>
  have t0 : (EF != 0) = false := by simp [h0]
  have c0 := H1.out.cell 0 _ rfl
  have c1 := H1.out.cell 1 _ rfl
  go_upto_region 5 with (first
    | (go_at_call 73; refine (HS.out _).mono ?_; rintro e w1 ⟨rfl, rfl⟩)
    | (go_at_call 123; refine (HNx.out _).mono ?_; rintro e w1 ⟨rfl, b1⟩; have HW := Lib.hid b1; clear b1 c0 c1))
  have H1 := Lib.hid (H1.out.below HW.out)
  have c0 := H1.out.cell 0 _ rfl
  have c1 := H1.out.cell 1 _ rfl
  by_cases h5 : EN ≠ 0 ∨ G.num = 0
  case pos =>
    have E := Lib.hid (E2.out h0 h5)
    clear h0 E1 E2 E3 E4
    by_cases h6 : EN = 0
    · have t1 : (EN != 0) = false := by simp [h6]
      have t2 : (G.num == 0) = true := by simpa using h5.resolve_left (by omega)
      clear h5 h6
      go_wp2_with fail
      go_ret
      exact ⟨by rw [E.out]; rfl, chain HB.out HW.out⟩
    · have t1 : (EN != 0) = true := by simpa using h6
      clear h5 h6
      go_wp2_with fail
      go_ret
      exact ⟨by rw [E.out]; rfl, chain HB.out HW.out⟩
  case neg =>
  have t1 : (EN != 0) = false := by
    by_cases h6 : EN = 0
    · simp [h6]
    · exact absurd (.inl h6) h5
  have t2 : (G.num == 0) = false := by
    by_cases h6 : G.num = 0
    · exact absurd (.inr h6) h5
    · simpa using h6
  have E3 := Lib.hid (E3.out h0 h5)
  have E4 := Lib.hid (E4.out h0 h5)
  clear h0 h5 E1 E2
  go_upto_region 7 with fail
  obtain ⟨B3, hB3⟩ : ∃ b : Bool, b = decide (gB3 G n N NF) := ⟨_, rfl⟩
  have HB3 := Lib.hid hB3
  clear hB3
  go_cut [70] (fun u wx => u = .bool B3 ∧ wx = w1)
  case first =>
    have H7 : B3 = decide ((N : Int) ≠ Z ∨ (0 < NF ∧ (NF : Int) ≠ Z) ∨ G.qt < 1 ∨ 31 < G.qt) := by rw [HB3.out]; exact decide_eq_decide.2 H7.out
    have HQ := Lib.hid H7
    clear H7
    by_cases hN : (N : Int) = Z
    · have n1 : ((N : Int) != Z) = false := by simp [hN]
      by_cases h8 : 0 < NF
      · have n2 : (0 : Int) < (NF : Int) := by omega
        by_cases h9 : (NF : Int) = Z
        · have n3 : ((NF : Int) != Z) = false := by simp [h9]
          by_cases hq : G.qt < 1
          · have HQ' : Hid (B3 = true) := Lib.hid (by rw [HQ.out]; exact decide_eq_true (.inr (.inr (.inl hq))))
            clear hN h8 h9 HQ
            go_wp2_with fail
            go_meet
            exact ⟨by rw [HQ'.out], rfl⟩
          · have HQ' : Hid (B3 = decide (31 < G.qt)) := Lib.hid (by rw [HQ.out]; exact decide_eq_decide.2 (by omega))
            clear hN h8 h9 HQ
            go_wp2_with fail
            go_meet
            exact ⟨by rw [HQ'.out], rfl⟩
        · have n3 : ((NF : Int) != Z) = true := by simpa using h9
          have HQ' : Hid (B3 = true) := Lib.hid (by rw [HQ.out]; exact decide_eq_true (.inr (.inl ⟨h8, h9⟩)))
          clear hN h8 h9 HQ
          go_wp2_with fail
          go_meet
          exact ⟨by rw [HQ'.out], rfl⟩
      · have n2 : ¬ (0 : Int) < (NF : Int) := by omega
        by_cases hq : G.qt < 1
        · have HQ' : Hid (B3 = true) := Lib.hid (by rw [HQ.out]; exact decide_eq_true (.inr (.inr (.inl hq))))
          clear hN h8 HQ
          go_wp2_with fail
          go_meet
          exact ⟨by rw [HQ'.out], rfl⟩
        · have HQ' : Hid (B3 = decide (31 < G.qt)) := Lib.hid (by rw [HQ.out]; exact decide_eq_decide.2 (by omega))
          clear hN h8 HQ
          go_wp2_with fail
          go_meet
          exact ⟨by rw [HQ'.out], rfl⟩
    · have n1 : ((N : Int) != Z) = true := by simpa using hN
      have HQ' : Hid (B3 = true) := Lib.hid (by rw [HQ.out]; exact decide_eq_true (.inl hN))
      clear hN HQ
      go_wp2_with fail
      go_meet
      exact ⟨by rw [HQ'.out], rfl⟩
  case rest =>
  obtain ⟨rfl, rfl⟩ := hcut
  clear c0 c1 H7
  cases B3 with
  | true =>
    have E := Lib.hid (E3.out (of_decide_eq_true HB3.out.symm))
    clear E3 E4
    go_wp2_with fail
    go_ret
    exact ⟨by rw [E.out]; rfl, chain HB.out HW.out⟩
  | false =>
  have E := Lib.hid (E4.out (of_decide_eq_false HB3.out.symm))
  clear E3 E4 HB3 t0 t1 t2
  have HB := Lib.hid (chain HB.out HW.out)
  have G3 := Lib.hid (HW.out)
  have K1 := Lib.hid H1.out
  clear H1
  have c3 := K1.out.cell 3 _ rfl
  go_wp2_with fail
  go_loopw [74, 15] (fun x l wr => ∃ k : Nat, k ≤ G.m ∧ x = .int .i64 k ∧ l = .int .i64 (lastA G.Ms k) ∧ Hid (rise G.Ms k) ∧ Hid (Below W1.heap.size W1 wr)) (fun x _ _ => G.m - (intOf x).toNat)
  case atStart => exact ⟨0, Nat.zero_le _, rfl, rfl, Lib.hid (fun j hj => by omega), G3⟩
  case round =>
    clear c3
    obtain ⟨k, hk, rfl, rfl, HRi, HW⟩ := hrel
    by_cases hkm : k < G.m
    · have kb : (0 : Int) ≤ (k : Int) ∧ (k : Int) < (G.m : Int) := by omega
      have ek : IntKind.i64.wrap ((k : Int) + 1) = (k : Int) + 1 := IntWalk.i64_in _ (by have h2q := h2; unfold maxLen at h2q; omega)
      rcases H3.out with h0 | ⟨b, o, rfl, hI⟩
      · omega
      obtain ⟨hc, hr⟩ := hI k hkm
      obtain ⟨va, vc, hvk, _, _, _⟩ := id hr
      rw [hvk] at hr
      have cc : ∀ i, i < 7 → wr.cell? ⟨b, o + k * 7 + i, none⟩ = some (mcell (G.Ms k) (G.vb k) i) := fun i hi => (HW.out.cell (p := ⟨b, o + k * 7 + i, none⟩) (World.block_lt_of_cell? _ _ (hc i hi))).trans (hc i hi)
      have d0 : wr.cell? ⟨b, o + k * 7, none⟩ = some (.int .i64 (G.Ms k).ad) := cc 0 (by omega)
      have d1 : wr.cell? ⟨b, o + k * 7 + 1, none⟩ = some (.int .i64 (G.Ms k).kd) := cc 1 (by omega)
      have d2 : wr.cell? ⟨b, o + k * 7 + 2, none⟩ = some (.int .i64 (G.Ms k).qt) := cc 2 (by omega)
      have d3 : wr.cell? ⟨b, o + k * 7 + 3, none⟩ = some (.int .i64 (G.Ms k).x) := cc 3 (by omega)
      have d4 : wr.cell? ⟨b, o + k * 7 + 4, none⟩ = some (.int .i64 (G.Ms k).y) := cc 4 (by omega)
      have d5 : wr.cell? ⟨b, o + k * 7 + 5, none⟩ = some (.int .i64 (G.Ms k).pt) := cc 5 (by omega)
      have d6 : wr.cell? ⟨b, o + k * 7 + 6, none⟩ = some (.slice va (G.Ms k).m vc) := by rw [← hvk]; exact cc 6 (by omega)
      have b2 := (Below.refl wr.heap.size wr).alloc (Nat.le_refl _) (.cells #[.int .i64 (G.Ms k).ad, .int .i64 (G.Ms k).kd, .int .i64 (G.Ms k).qt, .int .i64 (G.Ms k).x, .int .i64 (G.Ms k).y, .int .i64 (G.Ms k).pt, .slice va (G.Ms k).m vc] 24)
      have HM : Hid (At _ _ _ _) := Lib.hid (At.new wr #[.int .i64 (G.Ms k).ad, .int .i64 (G.Ms k).kd, .int .i64 (G.Ms k).qt, .int .i64 (G.Ms k).x, .int .i64 (G.Ms k).y, .int .i64 (G.Ms k).pt, .slice va (G.Ms k).m vc] 24)
      have HMA := Lib.hid (((HSH.out k hkm).at (hr.below HW.out)).below b2)
      have HW2 := Lib.hid (chain HW.out b2)
      have CK := Lib.hid (fun V h => mCheck_any (G.Ms k) (.slice va (G.Ms k).m vc) V h)
      obtain ⟨e0, he0⟩ : ∃ x, (G.Ms k).e = x := ⟨_, rfl⟩
      obtain ⟨LA, hLA⟩ : ∃ x, lastA G.Ms k = x := ⟨_, rfl⟩
      have HE0 := Lib.hid he0
      have HLA := Lib.hid hLA
      rw [he0] at CK
      clear hI hc hr cc hvk b2 he0 hLA
      have k0 := HM.out.cell 0 _ rfl
      have k1 := HM.out.cell 1 _ rfl
      have k2 := HM.out.cell 2 _ rfl
      have k3 := HM.out.cell 3 _ rfl
      have k4 := HM.out.cell 4 _ rfl
      have k5 := HM.out.cell 5 _ rfl
      have k6 := HM.out.cell 6 _ rfl
      go_upto_region 13 with fail
      rw [HLA.out]
      by_cases hz : e0 = 0
      case neg =>
        have t3 : (e0 != 0) = true := by simpa using hz
        have E' : Hid (R = 2) := Lib.hid (by rw [E.out, if_pos (fun h => hz (by rw [← HE0.out]; exact (h k hkm).1))])
        clear hz E
        go_wp2_with (go_at_call 41; refine (CK.out _ HMA.out).mono ?_; rintro e w2 ⟨rfl, b3⟩; have HW3 := Lib.hid (chain HW2.out b3); clear b3 k0 k1 k2 k3 k4 k5 k6)
        go_ret
        exact ⟨by rw [E'.out]; rfl, chain HB00.out HW3.out⟩
      case pos =>
      have t3 : (e0 != 0) = false := by simp [hz]
      by_cases hl : (G.Ms k).ad ≤ LA
      · have E' : Hid (R = 2) := Lib.hid (by rw [E.out, if_pos (fun h => by have := (h k hkm).2; rw [HLA.out] at this; omega)])
        have e2 : decide ((G.Ms k).ad ≤ LA) = true := decide_eq_true hl
        clear hz E
        go_wp2_with (go_at_call 41; refine (CK.out _ HMA.out).mono ?_; rintro e w2 ⟨rfl, b3⟩; have HW3 := Lib.hid (chain HW2.out b3); have HM := Lib.hid (HM.out.below b3); clear b3 k0 k1 k2 k3 k4 k5 k6; have k0 := HM.out.cell 0 _ rfl)
        go_ret
        exact ⟨by rw [E'.out]; rfl, chain HB00.out HW3.out⟩
      · have e2 : decide ((G.Ms k).ad ≤ LA) = false := decide_eq_false hl
        have HRi := Lib.hid (show rise G.Ms (k + 1) from fun j hj => by
          by_cases e : j = k
          · rw [e]; exact ⟨by rw [HE0.out]; exact hz, by rw [HLA.out]; omega⟩
          · exact HRi.out j (by omega))
        clear hz
        go_wp2_with (go_at_call 41; refine (CK.out _ HMA.out).mono ?_; rintro e w2 ⟨rfl, b3⟩; have HW3 := Lib.hid (chain HW2.out b3); have HM := Lib.hid (HM.out.below b3); clear b3 k0 k1 k2 k3 k4 k5 k6; have k0 := HM.out.cell 0 _ rfl)
        go_roundw
        case rel => exact ⟨k + 1, by omega, by go_num, rfl, HRi, HW3⟩
        case measure => simp [intOf]; omega
    · have kb : ¬ (k : Int) < (G.m : Int) := by omega
      have hk2 : k = G.m := by omega
      have HRI : Hid (rise G.Ms G.m) := Lib.hid (by rw [← hk2]; exact HRi.out)
      have E' : Hid (R = if ¬ fits n G.num G.Ms G.m then 12 else 0) := Lib.hid (by rw [E.out, if_neg (fun h => h (by rw [← hk2]; exact HRi.out))])
      have HW5 := Lib.hid HW.out
      clear hkm hk E HRi HW
      have K2 := Lib.hid (K0.out.below HW5.out)
      have c3 := K2.out.cell 3 _ rfl
      go_wp2_with fail
      go_loopw [93] (fun x wr => ∃ k : Nat, k ≤ G.m ∧ x = .int .i64 k ∧ Hid (fits n G.num G.Ms k) ∧ Hid (Below W1.heap.size W1 wr)) (fun x _ => G.m - (intOf x).toNat)
      case atStart => exact ⟨0, Nat.zero_le _, rfl, Lib.hid (fun j hj => by omega), HW5⟩
      case round =>
        clear c3 hk2 kb
        obtain ⟨k, hk, rfl, HFi, HW⟩ := hrel
        by_cases hkm : k < G.m
        · have kb : (0 : Int) ≤ (k : Int) ∧ (k : Int) < (G.m : Int) := by omega
          have ek : IntKind.i64.wrap ((k : Int) + 1) = (k : Int) + 1 := IntWalk.i64_in _ (by have h2q := h2; unfold maxLen at h2q; omega)
          rcases H3.out with h0 | ⟨b, o, rfl, hI⟩
          · omega
          obtain ⟨hc, hr⟩ := hI k hkm
          obtain ⟨va, vc, hvk, _, _, _⟩ := id hr
          rw [hvk] at hr
          have cc : ∀ i, i < 7 → wr.cell? ⟨b, o + k * 7 + i, none⟩ = some (mcell (G.Ms k) (G.vb k) i) := fun i hi => (HW.out.cell (p := ⟨b, o + k * 7 + i, none⟩) (World.block_lt_of_cell? _ _ (hc i hi))).trans (hc i hi)
          have d0 : wr.cell? ⟨b, o + k * 7, none⟩ = some (.int .i64 (G.Ms k).ad) := cc 0 (by omega)
          have d1 : wr.cell? ⟨b, o + k * 7 + 1, none⟩ = some (.int .i64 (G.Ms k).kd) := cc 1 (by omega)
          have d2 : wr.cell? ⟨b, o + k * 7 + 2, none⟩ = some (.int .i64 (G.Ms k).qt) := cc 2 (by omega)
          have d3 : wr.cell? ⟨b, o + k * 7 + 3, none⟩ = some (.int .i64 (G.Ms k).x) := cc 3 (by omega)
          have d4 : wr.cell? ⟨b, o + k * 7 + 4, none⟩ = some (.int .i64 (G.Ms k).y) := cc 4 (by omega)
          have d5 : wr.cell? ⟨b, o + k * 7 + 5, none⟩ = some (.int .i64 (G.Ms k).pt) := cc 5 (by omega)
          have d6 : wr.cell? ⟨b, o + k * 7 + 6, none⟩ = some (.slice va (G.Ms k).m vc) := by rw [← hvk]; exact cc 6 (by omega)
          have b2 := (Below.refl wr.heap.size wr).alloc (Nat.le_refl _) (.cells #[.int .i64 (G.Ms k).ad, .int .i64 (G.Ms k).kd, .int .i64 (G.Ms k).qt, .int .i64 (G.Ms k).x, .int .i64 (G.Ms k).y, .int .i64 (G.Ms k).pt, .slice va (G.Ms k).m vc] 24)
          have HM : Hid (At _ _ _ _) := Lib.hid (At.new wr #[.int .i64 (G.Ms k).ad, .int .i64 (G.Ms k).kd, .int .i64 (G.Ms k).qt, .int .i64 (G.Ms k).x, .int .i64 (G.Ms k).y, .int .i64 (G.Ms k).pt, .slice va (G.Ms k).m vc] 24)
          have HW2 := Lib.hid (chain HW.out b2)
          have HK := Lib.hid (fun V => Of_any (G.Ms k).kd V)
          unfold parts at HK
          have HFt := Lib.hid (fun V => Mo.Fits_any n G.num (G.Ms k).ad (G.Ms k).x (G.Ms k).y V)
          obtain ⟨zI, hI2⟩ : ∃ z, pI (G.Ms k).kd = z := ⟨_, rfl⟩
          obtain ⟨zQ, hzQ⟩ : ∃ z, pQ (G.Ms k).kd = z := ⟨_, rfl⟩
          obtain ⟨zV', hzV⟩ : ∃ z, pV (G.Ms k).kd = z := ⟨_, rfl⟩
          obtain ⟨zF, hzF⟩ : ∃ z, pF (G.Ms k).kd = z := ⟨_, rfl⟩
          obtain ⟨zC, hzC⟩ : ∃ z, pC (G.Ms k).kd = z := ⟨_, rfl⟩
          obtain ⟨KE, hKE⟩ : ∃ z, kE (G.Ms k).kd = z := ⟨_, rfl⟩
          rw [hI2, hzQ, hzV, hzF, hzC, hKE] at HK
          obtain ⟨VE, hVE⟩ : ∃ z, Mo.vE n G.num (G.Ms k).ad (G.Ms k).x (G.Ms k).y = z := ⟨_, rfl⟩
          rw [hVE] at HFt
          have HFI : Hid (fits n G.num G.Ms G.m → ¬ (zV' = true ∧ VE ≠ 0)) := Lib.hid (fun h => by have := h k hkm; rwa [hzV, hVE] at this)
          have HFN : Hid (¬ (zV' = true ∧ VE ≠ 0) → fits n G.num G.Ms (k + 1)) := Lib.hid (fun h j hj => by
            by_cases e : j = k
            · rw [e, hzV, hVE]; exact h
            · exact HFi.out j (by omega))
          have hxy := ok_xy (HRI.out k hkm).1
          have HFt := Lib.hid (fun V => HFt.out V (wf_small hxy.1) (wf_small hxy.2.1))
          clear hI hc hr cc hvk b2 hI2 hzQ hzV hzF hzC hKE hVE hxy
          have k1 := HM.out.cell 1 _ rfl
          go_upto_region 20 with fail
          go_wp2_with fail
          refine (HK.out _).mono ?_
          rintro e w5 ⟨rfl, b5⟩
          have b6 := (Below.refl w5.heap.size w5).alloc (Nat.le_refl _) (.cells #[.bool zI, .bool zQ, .bool zV', .bool zF, .bool zC] 67)
          have HP := Lib.hid (At.new w5 #[.bool zI, .bool zQ, .bool zV', .bool zF, .bool zC] 67)
          have HM := Lib.hid ((HM.out.below b5).below b6)
          have HW3 := Lib.hid (chain (chain HW2.out b5) b6)
          have K3 := Lib.hid (K0.out.below HW3.out)
          clear b5 b6 k1 d0 d1 d2 d3 d4 d5 d6 HK
          have p2 := HP.out.cell 2 _ rfl
          have k0 := HM.out.cell 0 _ rfl
          have k3 := HM.out.cell 3 _ rfl
          have k4 := HM.out.cell 4 _ rfl
          have c0 := K3.out.cell 0 _ rfl
          have c3 := K3.out.cell 3 _ rfl
          cases zV' with
          | false =>
            have HFN := Lib.hid (HFN.out (fun h => by cases h.1))
            go_wp2_with fail
            go_roundw
            case rel => exact ⟨k + 1, by omega, by go_num, HFN, HW3⟩
            case measure => simp [intOf]; omega
          | true =>
            by_cases hv : VE = 0
            · have t3 : (VE != 0) = false := by simp [hv]
              have HFK := Lib.hid (HFN.out (fun h => h.2 hv))
              clear hv HFN
              go_wp2_with (go_at_call 45; refine (HFt.out _).mono ?_; rintro e w6 ⟨rfl, b7⟩; have HW4 := Lib.hid (chain HW3.out b7); clear b7 p2 k0 k3 k4 c0 c3)
              go_roundw
              case rel => exact ⟨k + 1, by omega, by go_num, HFK, HW4⟩
              case measure => simp [intOf]; omega
            · have t3 : (VE != 0) = true := by simpa using hv
              have E'' : Hid (R = 12) := Lib.hid (by rw [E'.out, if_pos (fun h => HFI.out h ⟨rfl, hv⟩)])
              clear hv E'
              go_wp2_with (go_at_call 45; refine (HFt.out _).mono ?_; rintro e w6 ⟨rfl, b7⟩; have HW4 := Lib.hid (chain HW3.out b7); clear b7 p2 k0 k3 k4 c0 c3)
              go_ret
              exact ⟨by rw [E''.out]; rfl, chain HB00.out HW4.out⟩
        · have kb : ¬ (k : Int) < (G.m : Int) := by omega
          have hk2 : k = G.m := by omega
          have E'' : Hid (R = 0) := Lib.hid (by rw [E'.out, if_neg (fun h => h (by rw [← hk2]; exact HFi.out))])
          clear hkm hk E'
          go_wp2_with fail
          go_ret
          exact ⟨by rw [E''.out]; rfl, chain HB00.out HW.out⟩
end
end Bl
end Go.Proofs.YtbmglemjfodfhaaGreat
