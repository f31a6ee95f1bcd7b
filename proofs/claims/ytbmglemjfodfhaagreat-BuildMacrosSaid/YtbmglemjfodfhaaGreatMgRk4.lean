/- The document's answer: macro.Check. -/
import Derived.Test.YtbmglemjfodfhaaGreatMgRk3
import Derived.BigQuiet
import Derived.Deep.RegionHeld3
set_option linter.unusedVariables false
set_option linter.unusedSimpArgs false

namespace Go.Proofs.YtbmglemjfodfhaaGreat
open Go.RowKit
namespace Bk
open Kd

def MB.rb1 (M : MB) : Bool := (kE M.kd != 0) || decide (M.ad < 1) || decide (33 < M.ad) || !wiB (pQ M.kd) M.qt 1 31 || !wiB (pV M.kd) M.x (-15) 15 || !wiB (pV M.kd) M.y (-15) 15
def MB.rpt (M : MB) : Bool := if pI M.kd then M.pt == 63 else wiB (pC M.kd) M.pt 1 63
def MB.rb2 (M : MB) : Bool := !M.rpt || ((M.m : Int) != cntP M.pt 6)
theorem MB.rbad (M : MB) : (M.rb1 || M.rb2) = (M.bad1 || M.bad2) := by
  unfold MB.rb1 MB.rb2 MB.bad1 MB.bad2 MB.rpt MB.qok MB.most wiB prt
  cases pI M.kd <;> cases pC M.kd <;> cases pV M.kd <;> cases pQ M.kd <;>
  · rw [Bool.eq_iff_iff]
    simp only [Bool.or_eq_true, Bool.not_eq_true', Bool.and_eq_true, Bool.and_eq_false_iff, decide_eq_true_eq, decide_eq_false_iff_not, bne_iff_ne, beq_iff_eq, beq_eq_false_iff_ne, if_true, if_false, Bool.false_eq_true, Bool.not_false, Bool.not_true, Bool.or_false, Bool.false_or, Bool.true_or, ne_eq, Bool.true_and, Bool.false_and, Bool.or_true, Bool.and_true, Bool.and_false]
    omega
theorem MB.re (M : MB) : M.e = if M.rb1 = true then 2 else if M.rb2 = true then 2 else if M.okBs then 0 else 2 := by
  have h := M.rbad
  unfold MB.e
  cases h1 : M.rb1 <;> cases h2 : M.rb2 <;> cases h3 : M.bad1 <;> cases h4 : M.bad2 <;> rw [h1, h2, h3, h4] at h <;> first | rfl | cases h
section
set_option maxRecDepth 100000
set_option maxHeartbeats 4000000
set_option linter.unusedVariables false
theorem rmCheck_any (M : MB) (v : Value) (w : World) (hs : M.at w v) :
    Calls Tryz.prog 61 #[mv M v] w fun e w' => e = .returned (.int .i64 M.e) ∧ Below w.heap.size w w' := by
  have HB := Lib.hid ((Below.refl w.heap.size w).alloc (Nat.le_refl _) (.cells #[.int .i64 M.ad, .int .i64 M.kd, .int .i64 M.qt, .int .i64 M.x, .int .i64 M.y, .int .i64 M.pt, v] 24))
  have H1 : Hid (At _ _ _ _) := Lib.hid (At.new w #[.int .i64 M.ad, .int .i64 M.kd, .int .i64 M.qt, .int .i64 M.x, .int .i64 M.y, .int .i64 M.pt, v] 24)
  have HA := Lib.hid (hs.below HB.out)
  obtain ⟨sa, sc, hv, h1, h2, _⟩ := id hs
  subst hv
  have HA0 := Lib.hid hs
  clear hs
  have RE := M.re
  unfold MB.rb1 MB.rb2 MB.rpt at RE
  have HK := Lib.hid (fun V => rOf_any M.kd V)
  unfold parts at HK
  obtain ⟨okP, hok⟩ : ∃ P, M.okBs = P := ⟨_, rfl⟩
  have HOK := Lib.hid hok
  obtain ⟨zI, hI⟩ : ∃ z, pI M.kd = z := ⟨_, rfl⟩
  obtain ⟨zQ, hQ⟩ : ∃ z, pQ M.kd = z := ⟨_, rfl⟩
  obtain ⟨zV', hV⟩ : ∃ z, pV M.kd = z := ⟨_, rfl⟩
  obtain ⟨zF, hF⟩ : ∃ z, pF M.kd = z := ⟨_, rfl⟩
  obtain ⟨zC, hC⟩ : ∃ z, pC M.kd = z := ⟨_, rfl⟩
  obtain ⟨E, hE⟩ : ∃ z, kE M.kd = z := ⟨_, rfl⟩
  obtain ⟨W1, hW1⟩ : ∃ z, wiB zQ M.qt 1 31 = z := ⟨_, rfl⟩
  obtain ⟨W2, hW2⟩ : ∃ z, wiB zV' M.x (-15) 15 = z := ⟨_, rfl⟩
  obtain ⟨W3, hW3⟩ : ∃ z, wiB zV' M.y (-15) 15 = z := ⟨_, rfl⟩
  obtain ⟨W4, hW4⟩ : ∃ z, wiB zC M.pt 1 63 = z := ⟨_, rfl⟩
  rw [hI, hQ, hV, hC, hE, hW1, hW2, hW3, hW4] at RE
  rw [hI, hQ, hV, hF, hC, hE] at HK
  have HW1 := Lib.hid (fun V => within_any zQ M.qt 1 31 V)
  have HW2 := Lib.hid (fun V => within_any zV' M.x (-15) 15 V)
  have HW3 := Lib.hid (fun V => within_any zV' M.y (-15) 15 V)
  have HW4 := Lib.hid (fun V => within_any zC M.pt 1 63 V)
  rw [hW1] at HW1
  rw [hW2] at HW2
  rw [hW3] at HW3
  rw [hW4] at HW4
  have HIv := Lib.hid hI
  have HCN : Hid (∀ V : World, Calls Tryz.prog 104 #[.int .i64 M.pt] V fun e w' => e = .returned (.int .i64 (cntP M.pt 6)) ∧ Below V.heap.size V w') := Lib.hid (fun V => (rCount_any M.pt V).mono (by rintro e w' ⟨rfl, rfl⟩; exact ⟨rfl, Below.refl _ _⟩))
  obtain ⟨C, hC2⟩ : ∃ C, cntP M.pt 6 = C := ⟨_, rfl⟩
  rw [hC2] at HCN RE
  clear hC2
  obtain ⟨R, hR⟩ : ∃ R, M.e = R := ⟨_, rfl⟩
  rw [hR] at RE ⊢
  have HRE := Lib.hid RE
  clear hI hQ hV hF hC hE hW1 hW2 hW3 hW4 hok hR RE
  have m1 := H1.out.cell 1 _ rfl
  go_enter Tryz.func61, Tryz.ntmps61
  go_wp2_with fail
  refine (HK.out _).mono ?_
  rintro e w1 ⟨rfl, b1⟩
  have b2 := (Below.refl w1.heap.size w1).alloc (Nat.le_refl _) (.cells #[.bool zI, .bool zQ, .bool zV', .bool zF, .bool zC] 67)
  have HP := Lib.hid (At.new w1 #[.bool zI, .bool zQ, .bool zV', .bool zF, .bool zC] 67)
  have HB := Lib.hid (chain (chain HB.out b1) b2)
  have H1 := Lib.hid ((H1.out.below b1).below b2)
  have HA := Lib.hid ((HA.out.below b1).below b2)
  clear b1 b2 m1 HK
  have m0 := H1.out.cell 0 _ rfl
  have m2 := H1.out.cell 2 _ rfl
  have m3 := H1.out.cell 3 _ rfl
  have m4 := H1.out.cell 4 _ rfl
  have m5 := H1.out.cell 5 _ rfl
  have m6 := H1.out.cell 6 _ rfl
  have p0 := HP.out.cell 0 _ rfl
  have p1 := HP.out.cell 1 _ rfl
  have p2 := HP.out.cell 2 _ rfl
  have p4 := HP.out.cell 4 _ rfl
  go_upto_region 2 with fail
  generalize w1.alloc (.cells #[.bool zI, .bool zQ, .bool zV', .bool zF, .bool zC] 67) = W5 at *
  generalize w1.heap.size = pB at *
  have T1 := Lib.hid trivial
  have T2 := Lib.hid trivial
  have T3 := Lib.hid trivial
  have T4 := Lib.hid trivial
  by_cases hE0 : E = 0
  case neg =>
    have t1 : (E != 0) = true := by simpa using hE0
    go_wp2_with (first
    | (go_at_call 103; clear T1; refine (HW1.out _).mono ?_; rintro e w2 ⟨rfl, rfl⟩)
    | (go_at_call 103; clear T2; refine (HW2.out _).mono ?_; rintro e w2 ⟨rfl, rfl⟩)
    | (go_at_call 103; clear T3; refine (HW3.out _).mono ?_; rintro e w2 ⟨rfl, rfl⟩)
    | (go_at_call 103; clear T4; refine (HW4.out _).mono ?_; rintro e w2 ⟨rfl, rfl⟩))
    go_ret
    exact ⟨by rw [HRE.out]; simp [*], HB.out⟩
  case pos =>
  have t1 : (E != 0) = false := by simp [hE0]
  by_cases ha1 : M.ad < 1
  case pos =>
    go_wp2_with (first
    | (go_at_call 103; clear T1; refine (HW1.out _).mono ?_; rintro e w2 ⟨rfl, rfl⟩)
    | (go_at_call 103; clear T2; refine (HW2.out _).mono ?_; rintro e w2 ⟨rfl, rfl⟩)
    | (go_at_call 103; clear T3; refine (HW3.out _).mono ?_; rintro e w2 ⟨rfl, rfl⟩)
    | (go_at_call 103; clear T4; refine (HW4.out _).mono ?_; rintro e w2 ⟨rfl, rfl⟩))
    go_ret
    exact ⟨by rw [HRE.out]; simp [*], HB.out⟩
  case neg =>
  by_cases ha2 : 33 < M.ad
  case pos =>
    go_wp2_with (first
    | (go_at_call 103; clear T1; refine (HW1.out _).mono ?_; rintro e w2 ⟨rfl, rfl⟩)
    | (go_at_call 103; clear T2; refine (HW2.out _).mono ?_; rintro e w2 ⟨rfl, rfl⟩)
    | (go_at_call 103; clear T3; refine (HW3.out _).mono ?_; rintro e w2 ⟨rfl, rfl⟩)
    | (go_at_call 103; clear T4; refine (HW4.out _).mono ?_; rintro e w2 ⟨rfl, rfl⟩))
    go_ret
    exact ⟨by rw [HRE.out]; simp [*], HB.out⟩
  case neg =>
  cases W1 with
  | false =>
    go_wp2_with (first
    | (go_at_call 103; clear T1; refine (HW1.out _).mono ?_; rintro e w2 ⟨rfl, rfl⟩)
    | (go_at_call 103; clear T2; refine (HW2.out _).mono ?_; rintro e w2 ⟨rfl, rfl⟩)
    | (go_at_call 103; clear T3; refine (HW3.out _).mono ?_; rintro e w2 ⟨rfl, rfl⟩)
    | (go_at_call 103; clear T4; refine (HW4.out _).mono ?_; rintro e w2 ⟨rfl, rfl⟩))
    go_ret
    exact ⟨by rw [HRE.out]; simp [*], HB.out⟩
  | true =>
  cases W2 with
  | false =>
    go_wp2_with (first
    | (go_at_call 103; clear T1; refine (HW1.out _).mono ?_; rintro e w2 ⟨rfl, rfl⟩)
    | (go_at_call 103; clear T2; refine (HW2.out _).mono ?_; rintro e w2 ⟨rfl, rfl⟩)
    | (go_at_call 103; clear T3; refine (HW3.out _).mono ?_; rintro e w2 ⟨rfl, rfl⟩)
    | (go_at_call 103; clear T4; refine (HW4.out _).mono ?_; rintro e w2 ⟨rfl, rfl⟩))
    go_ret
    exact ⟨by rw [HRE.out]; simp [*], HB.out⟩
  | true =>
  cases W3 with
  | false =>
    go_wp2_with (first
    | (go_at_call 103; clear T1; refine (HW1.out _).mono ?_; rintro e w2 ⟨rfl, rfl⟩)
    | (go_at_call 103; clear T2; refine (HW2.out _).mono ?_; rintro e w2 ⟨rfl, rfl⟩)
    | (go_at_call 103; clear T3; refine (HW3.out _).mono ?_; rintro e w2 ⟨rfl, rfl⟩)
    | (go_at_call 103; clear T4; refine (HW4.out _).mono ?_; rintro e w2 ⟨rfl, rfl⟩))
    go_ret
    exact ⟨by rw [HRE.out]; simp [*], HB.out⟩
  | true =>
  cases zI with
  | true =>
    by_cases hp : M.pt = 63
    case neg =>
      have u1 : (M.pt == 63) = false := by simpa using hp
      go_upto_region 7 with (first
    | (go_at_call 103; clear T1; refine (HW1.out _).mono ?_; rintro e w2 ⟨rfl, rfl⟩)
    | (go_at_call 103; clear T2; refine (HW2.out _).mono ?_; rintro e w2 ⟨rfl, rfl⟩)
    | (go_at_call 103; clear T3; refine (HW3.out _).mono ?_; rintro e w2 ⟨rfl, rfl⟩)
    | (go_at_call 103; clear T4; refine (HW4.out _).mono ?_; rintro e w2 ⟨rfl, rfl⟩))
      (try simp only [u1])
      go_quiet (fail)
      go_wp2_with fail
      go_ret
      exact ⟨by rw [HRE.out]; simp [*], below_drewN HB.out _⟩
    case pos =>
      have u1 : (M.pt == 63) = true := by simpa using hp
      clear hp
      go_upto_region 7 with (first
          | (go_at_call 103; clear T1; refine (HW1.out _).mono ?_; rintro e w2 ⟨rfl, rfl⟩)
          | (go_at_call 103; clear T2; refine (HW2.out _).mono ?_; rintro e w2 ⟨rfl, rfl⟩)
          | (go_at_call 103; clear T3; refine (HW3.out _).mono ?_; rintro e w2 ⟨rfl, rfl⟩)
          | (go_at_call 103; clear T4; refine (HW4.out _).mono ?_; rintro e w2 ⟨rfl, rfl⟩))
      (try simp only [u1])
      by_cases hm : (M.m : Int) = C
      case neg =>
        have t2 : ((M.m : Int) != C) = true := by simpa using hm
        clear hm
        have m5' : W5.cell? ⟨w.heap.size, 5, none⟩ = some (.int .i64 M.pt) := m5
        have m6' : W5.cell? ⟨w.heap.size, 6, none⟩ = some (.slice sa M.m sc) := m6
        have q5 := Past.cell m5'
        have q6 := Past.cell m6'
        refine wp_region_past (by kernel_rfl) (by kernel_rfl) ?_
        repeat (go_big_quiet_step ((go_at_call 104; exact past_call (HCN.out _))))
        refine wpQuiet_nil ?_
        rintro _ ⟨⟨w8, h8⟩, rfl⟩
        go_wp2_with fail
        go_ret
        exact ⟨by rw [HRE.out]; (first | (simp [*]; done) | (simp [*]; intro h; exfalso; omega)), chain HB.out h8⟩
      case pos =>
      have t2 : ((M.m : Int) != C) = false := by simp [hm]
      clear hm
      have m5' : W5.cell? ⟨w.heap.size, 5, none⟩ = some (.int .i64 M.pt) := m5
      have m6' : W5.cell? ⟨w.heap.size, 6, none⟩ = some (.slice sa M.m sc) := m6
      have q5 := Past.cell m5'
      have q6 := Past.cell m6'
      refine wp_region_past (by kernel_rfl) (by kernel_rfl) ?_
      repeat (go_big_quiet_step ((go_at_call 104; exact past_call (HCN.out _))))
      refine wpQuiet_nil ?_
      rintro _ ⟨⟨w8, h8⟩, rfl⟩
      have HB9 := Lib.hid (chain HB.out h8)
      have H19 := Lib.hid (H1.out.below h8)
      have HP9 := Lib.hid (HP.out.below h8)
      clear q5 q6 m5' m6'
      have HRE1 : Hid (R = if M.okBs then 0 else 2) := Lib.hid (by rw [HRE.out]; simp [*]; intro h; exfalso; omega)
      clear m0 m2 m3 m4 m5 m6 p0 p1 p2 p4 HA HW1 HW2 HW3 HW4 HCN HRE
      go_wp2_with fail
      go_loopw [6] (fun x wr => ∃ k : Nat, k ≤ M.m ∧ x = .int .i64 k ∧ Hid (∀ j, j < k → bE (M.dc j) (M.nn j) (M.r j) (M.l j) (pI M.kd) = 0) ∧ Hid (Below w.heap.size w wr) ∧ Hid (At wr w.heap.size #[.int .i64 M.ad, .int .i64 M.kd, .int .i64 M.qt, .int .i64 M.x, .int .i64 M.y, .int .i64 M.pt, .slice sa M.m sc] 24) ∧ Hid (At wr pB #[.bool true, .bool zQ, .bool zV', .bool zF, .bool zC] 67)) (fun x _ => M.m - (intOf x).toNat)
      case atStart => exact ⟨0, Nat.zero_le _, rfl, Lib.hid (fun j hj => by omega), HB9, H19, HP9⟩
      case round =>
        clear HB9 H19 HP9
        obtain ⟨k, hk, rfl, HO, HB9, H19, HP9⟩ := hrel
        have m6 := H19.out.cell 6 _ rfl
        by_cases hkm : k < M.m
        · have kb : (0 : Int) ≤ (k : Int) ∧ (k : Int) < (M.m : Int) := by omega
          have ek : IntKind.i64.wrap ((k : Int) + 1) = (k : Int) + 1 := IntWalk.i64_in _ (by have h2q := h2; unfold maxLen at h2q; omega)
          obtain ⟨a', c', ev, _, _, h3⟩ := HA0.out.below HB9.out
          cases ev
          rcases h3 with h0 | ⟨b, o, rfl, hI⟩
          · omega
          obtain ⟨d1, d2, hp, hn⟩ := hI k hkm
          go_upto_region 12 with fail
          have HCK := Lib.hid (rCheck_any (M.dc k) (M.q k) (M.nn k) (M.cc k) (M.r k) (M.l k) wr.drew true hn (hp.below (Below.refl _ _).drew))
          have HEK : Hid (bE (M.dc k) (M.nn k) (M.r k) (M.l k) (pI M.kd) = bE (M.dc k) (M.nn k) (M.r k) (M.l k) true) := Lib.hid (by rw [HIv.out])
          obtain ⟨F, hF⟩ : ∃ F, bE (M.dc k) (M.nn k) (M.r k) (M.l k) true = F := ⟨_, rfl⟩
          rw [hF] at HCK HEK
          have p0 := HP9.out.cell 0 _ rfl
          have lb := World.block_lt_of_cell? _ _ d1
          have lp := HP9.out.lt
          have lm := H19.out.lt
          clear hI hp hn hF
          by_cases hF0 : F = 0
          · have t3 : (F != 0) = false := by simp [hF0]
            go_region_held3 (fun w' => w'.cell? ⟨w.heap.size, 6, none⟩ = some (.slice (some ⟨b, o, none⟩) M.m sc) ∧ w'.cell? ⟨b, o + k * 2, none⟩ = some (.int .i64 (M.dc k)) ∧ w'.cell? ⟨b, o + k * 2 + 1, none⟩ = some (.slice (M.q k) (M.nn k) (M.cc k)) ∧ w'.cell? ⟨pB, 0, none⟩ = some (.bool true))
              (first | exact ⟨m6, d1, d2, p0⟩ | exact S2.out)
              (first | (go_at_call 105; refine HCK.out.mono ?_; rintro e w2 ⟨rfl, b2⟩; have S2 := Lib.hid (And.intro ((b2.cell (p := ⟨w.heap.size, 6, none⟩) lm).trans m6) (And.intro ((b2.cell (p := ⟨b, o + k * 2, none⟩) lb).trans d1) (And.intro ((b2.cell (p := ⟨b, o + k * 2 + 1, none⟩) lb).trans d2) ((b2.cell (p := ⟨pB, 0, none⟩) lp).trans p0)))); have HB2 := Lib.hid (chain (HB9.out.drew) b2); have H12 := Lib.hid ((H19.out.below (Below.refl _ _).drew).below b2); have HP2 := Lib.hid ((HP9.out.below (Below.refl _ _).drew).below b2); clear b2))
            clear m6 d1 d2 p0
            go_wp2_with fail
            go_roundw
            case rel => exact ⟨k + 1, by omega, by go_num, Lib.hid (fun j hj => by
              by_cases e : j = k
              · rw [e, HEK.out]; exact hF0
              · exact HO.out j (by omega)), HB2, H12, HP2⟩
            case measure => simp [intOf]; omega
          · have t3 : (F != 0) = true := by simpa using hF0
            have HR2 : Hid (R = 2) := Lib.hid (by rw [HRE1.out, if_neg (fun h : M.okBs => hF0 (by rw [← HEK.out]; exact h k hkm))])
            go_region_held3 (fun w' => w'.cell? ⟨w.heap.size, 6, none⟩ = some (.slice (some ⟨b, o, none⟩) M.m sc) ∧ w'.cell? ⟨b, o + k * 2, none⟩ = some (.int .i64 (M.dc k)) ∧ w'.cell? ⟨b, o + k * 2 + 1, none⟩ = some (.slice (M.q k) (M.nn k) (M.cc k)) ∧ w'.cell? ⟨pB, 0, none⟩ = some (.bool true))
              (first | exact ⟨m6, d1, d2, p0⟩ | exact S2.out)
              (first | (go_at_call 105; refine HCK.out.mono ?_; rintro e w2 ⟨rfl, b2⟩; have S2 := Lib.hid (And.intro ((b2.cell (p := ⟨w.heap.size, 6, none⟩) lm).trans m6) (And.intro ((b2.cell (p := ⟨b, o + k * 2, none⟩) lb).trans d1) (And.intro ((b2.cell (p := ⟨b, o + k * 2 + 1, none⟩) lb).trans d2) ((b2.cell (p := ⟨pB, 0, none⟩) lp).trans p0)))); have HB2 := Lib.hid (chain (HB9.out.drew) b2); clear b2))
            clear m6 d1 d2 p0
            go_wp2_with fail
            go_ret
            exact ⟨by rw [HR2.out]; rfl, HB2.out⟩
        · have kb : ¬ (k : Int) < (M.m : Int) := by omega
          have hk2 : k = M.m := by omega
          have HR2 : Hid (R = 0) := Lib.hid (by rw [HRE1.out, if_pos (show M.okBs from fun j hj => HO.out j (by omega))])
          clear hkm hk
          go_wp2_with fail
          go_ret
          exact ⟨by rw [HR2.out]; rfl, HB9.out⟩
  | false =>
    cases W4 with
    | false =>
      go_upto_region 7 with (first
    | (go_at_call 103; clear T1; refine (HW1.out _).mono ?_; rintro e w2 ⟨rfl, rfl⟩)
    | (go_at_call 103; clear T2; refine (HW2.out _).mono ?_; rintro e w2 ⟨rfl, rfl⟩)
    | (go_at_call 103; clear T3; refine (HW3.out _).mono ?_; rintro e w2 ⟨rfl, rfl⟩)
    | (go_at_call 103; clear T4; refine (HW4.out _).mono ?_; rintro e w2 ⟨rfl, rfl⟩))
      (try simp only [u1])
      go_quiet (fail)
      go_wp2_with fail
      go_ret
      exact ⟨by rw [HRE.out]; simp [*], below_drewN HB.out _⟩
    | true =>
      go_upto_region 7 with (first
          | (go_at_call 103; clear T1; refine (HW1.out _).mono ?_; rintro e w2 ⟨rfl, rfl⟩)
          | (go_at_call 103; clear T2; refine (HW2.out _).mono ?_; rintro e w2 ⟨rfl, rfl⟩)
          | (go_at_call 103; clear T3; refine (HW3.out _).mono ?_; rintro e w2 ⟨rfl, rfl⟩)
          | (go_at_call 103; clear T4; refine (HW4.out _).mono ?_; rintro e w2 ⟨rfl, rfl⟩))
      (try simp only [u1])
      by_cases hm : (M.m : Int) = C
      case neg =>
        have t2 : ((M.m : Int) != C) = true := by simpa using hm
        clear hm
        have m5' : W5.cell? ⟨w.heap.size, 5, none⟩ = some (.int .i64 M.pt) := m5
        have m6' : W5.cell? ⟨w.heap.size, 6, none⟩ = some (.slice sa M.m sc) := m6
        have q5 := Past.cell m5'
        have q6 := Past.cell m6'
        refine wp_region_past (by kernel_rfl) (by kernel_rfl) ?_
        repeat (go_big_quiet_step ((go_at_call 104; exact past_call (HCN.out _))))
        refine wpQuiet_nil ?_
        rintro _ ⟨⟨w8, h8⟩, rfl⟩
        go_wp2_with fail
        go_ret
        exact ⟨by rw [HRE.out]; (first | (simp [*]; done) | (simp [*]; intro h; exfalso; omega)), chain HB.out h8⟩
      case pos =>
      have t2 : ((M.m : Int) != C) = false := by simp [hm]
      clear hm
      have m5' : W5.cell? ⟨w.heap.size, 5, none⟩ = some (.int .i64 M.pt) := m5
      have m6' : W5.cell? ⟨w.heap.size, 6, none⟩ = some (.slice sa M.m sc) := m6
      have q5 := Past.cell m5'
      have q6 := Past.cell m6'
      refine wp_region_past (by kernel_rfl) (by kernel_rfl) ?_
      repeat (go_big_quiet_step ((go_at_call 104; exact past_call (HCN.out _))))
      refine wpQuiet_nil ?_
      rintro _ ⟨⟨w8, h8⟩, rfl⟩
      have HB9 := Lib.hid (chain HB.out h8)
      have H19 := Lib.hid (H1.out.below h8)
      have HP9 := Lib.hid (HP.out.below h8)
      clear q5 q6 m5' m6'
      have HRE1 : Hid (R = if M.okBs then 0 else 2) := Lib.hid (by rw [HRE.out]; simp [*]; intro h; exfalso; omega)
      clear m0 m2 m3 m4 m5 m6 p0 p1 p2 p4 HA HW1 HW2 HW3 HW4 HCN HRE
      go_wp2_with fail
      go_loopw [6] (fun x wr => ∃ k : Nat, k ≤ M.m ∧ x = .int .i64 k ∧ Hid (∀ j, j < k → bE (M.dc j) (M.nn j) (M.r j) (M.l j) (pI M.kd) = 0) ∧ Hid (Below w.heap.size w wr) ∧ Hid (At wr w.heap.size #[.int .i64 M.ad, .int .i64 M.kd, .int .i64 M.qt, .int .i64 M.x, .int .i64 M.y, .int .i64 M.pt, .slice sa M.m sc] 24) ∧ Hid (At wr pB #[.bool false, .bool zQ, .bool zV', .bool zF, .bool zC] 67)) (fun x _ => M.m - (intOf x).toNat)
      case atStart => exact ⟨0, Nat.zero_le _, rfl, Lib.hid (fun j hj => by omega), HB9, H19, HP9⟩
      case round =>
        clear HB9 H19 HP9
        obtain ⟨k, hk, rfl, HO, HB9, H19, HP9⟩ := hrel
        have m6 := H19.out.cell 6 _ rfl
        by_cases hkm : k < M.m
        · have kb : (0 : Int) ≤ (k : Int) ∧ (k : Int) < (M.m : Int) := by omega
          have ek : IntKind.i64.wrap ((k : Int) + 1) = (k : Int) + 1 := IntWalk.i64_in _ (by have h2q := h2; unfold maxLen at h2q; omega)
          obtain ⟨a', c', ev, _, _, h3⟩ := HA0.out.below HB9.out
          cases ev
          rcases h3 with h0 | ⟨b, o, rfl, hI⟩
          · omega
          obtain ⟨d1, d2, hp, hn⟩ := hI k hkm
          go_upto_region 12 with fail
          have HCK := Lib.hid (rCheck_any (M.dc k) (M.q k) (M.nn k) (M.cc k) (M.r k) (M.l k) wr.drew false hn (hp.below (Below.refl _ _).drew))
          have HEK : Hid (bE (M.dc k) (M.nn k) (M.r k) (M.l k) (pI M.kd) = bE (M.dc k) (M.nn k) (M.r k) (M.l k) false) := Lib.hid (by rw [HIv.out])
          obtain ⟨F, hF⟩ : ∃ F, bE (M.dc k) (M.nn k) (M.r k) (M.l k) false = F := ⟨_, rfl⟩
          rw [hF] at HCK HEK
          have p0 := HP9.out.cell 0 _ rfl
          have lb := World.block_lt_of_cell? _ _ d1
          have lp := HP9.out.lt
          have lm := H19.out.lt
          clear hI hp hn hF
          by_cases hF0 : F = 0
          · have t3 : (F != 0) = false := by simp [hF0]
            go_region_held3 (fun w' => w'.cell? ⟨w.heap.size, 6, none⟩ = some (.slice (some ⟨b, o, none⟩) M.m sc) ∧ w'.cell? ⟨b, o + k * 2, none⟩ = some (.int .i64 (M.dc k)) ∧ w'.cell? ⟨b, o + k * 2 + 1, none⟩ = some (.slice (M.q k) (M.nn k) (M.cc k)) ∧ w'.cell? ⟨pB, 0, none⟩ = some (.bool false))
              (first | exact ⟨m6, d1, d2, p0⟩ | exact S2.out)
              (first | (go_at_call 105; refine HCK.out.mono ?_; rintro e w2 ⟨rfl, b2⟩; have S2 := Lib.hid (And.intro ((b2.cell (p := ⟨w.heap.size, 6, none⟩) lm).trans m6) (And.intro ((b2.cell (p := ⟨b, o + k * 2, none⟩) lb).trans d1) (And.intro ((b2.cell (p := ⟨b, o + k * 2 + 1, none⟩) lb).trans d2) ((b2.cell (p := ⟨pB, 0, none⟩) lp).trans p0)))); have HB2 := Lib.hid (chain (HB9.out.drew) b2); have H12 := Lib.hid ((H19.out.below (Below.refl _ _).drew).below b2); have HP2 := Lib.hid ((HP9.out.below (Below.refl _ _).drew).below b2); clear b2))
            clear m6 d1 d2 p0
            go_wp2_with fail
            go_roundw
            case rel => exact ⟨k + 1, by omega, by go_num, Lib.hid (fun j hj => by
              by_cases e : j = k
              · rw [e, HEK.out]; exact hF0
              · exact HO.out j (by omega)), HB2, H12, HP2⟩
            case measure => simp [intOf]; omega
          · have t3 : (F != 0) = true := by simpa using hF0
            have HR2 : Hid (R = 2) := Lib.hid (by rw [HRE1.out, if_neg (fun h : M.okBs => hF0 (by rw [← HEK.out]; exact h k hkm))])
            go_region_held3 (fun w' => w'.cell? ⟨w.heap.size, 6, none⟩ = some (.slice (some ⟨b, o, none⟩) M.m sc) ∧ w'.cell? ⟨b, o + k * 2, none⟩ = some (.int .i64 (M.dc k)) ∧ w'.cell? ⟨b, o + k * 2 + 1, none⟩ = some (.slice (M.q k) (M.nn k) (M.cc k)) ∧ w'.cell? ⟨pB, 0, none⟩ = some (.bool false))
              (first | exact ⟨m6, d1, d2, p0⟩ | exact S2.out)
              (first | (go_at_call 105; refine HCK.out.mono ?_; rintro e w2 ⟨rfl, b2⟩; have S2 := Lib.hid (And.intro ((b2.cell (p := ⟨w.heap.size, 6, none⟩) lm).trans m6) (And.intro ((b2.cell (p := ⟨b, o + k * 2, none⟩) lb).trans d1) (And.intro ((b2.cell (p := ⟨b, o + k * 2 + 1, none⟩) lb).trans d2) ((b2.cell (p := ⟨pB, 0, none⟩) lp).trans p0)))); have HB2 := Lib.hid (chain (HB9.out.drew) b2); clear b2))
            clear m6 d1 d2 p0
            go_wp2_with fail
            go_ret
            exact ⟨by rw [HR2.out]; rfl, HB2.out⟩
        · have kb : ¬ (k : Int) < (M.m : Int) := by omega
          have hk2 : k = M.m := by omega
          have HR2 : Hid (R = 0) := Lib.hid (by rw [HRE1.out, if_pos (show M.okBs from fun j hj => HO.out j (by omega))])
          clear hkm hk
          go_wp2_with fail
          go_ret
          exact ⟨by rw [HR2.out]; rfl, HB9.out⟩
end
end Bk
end Go.Proofs.YtbmglemjfodfhaaGreat
