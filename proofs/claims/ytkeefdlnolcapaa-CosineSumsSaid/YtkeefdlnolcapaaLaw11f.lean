/- CosineSums. -/
import Derived.Test.YtkeefdlnolcapaaLaw11d
import Derived.BigRegion
import Derived.Deep.RegionWith
import Derived.Deep.Cut
namespace Go.Proofs.Ytkeefdlnolcapaa
open Go.RowKit
namespace Co

/-- two blocks by calls, and one of noughts. -/
def Sums (w wx : World) (F G : Nat → Int) (u6 u7 u8 : Value) : Prop :=
  ∃ g1 c1 g2 c2 g3, u6 = .slice (some ⟨g1, 0, none⟩) 64 c1 ∧ u7 = .slice (some ⟨g2, 0, none⟩) 64 c2 ∧ u8 = .slice (some ⟨g3, 0, none⟩) 64 64 ∧ (w.heap.size ≤ g1 ∧ w.heap.size ≤ g2 ∧ w.heap.size ≤ g3) ∧ (g1 ≠ g2 ∧ g1 ≠ g3 ∧ g2 ≠ g3) ∧ ((64 ≤ c1 ∧ c1 ≤ maxLen) ∧ 64 ≤ c2 ∧ c2 ≤ maxLen) ∧ (Arr wx .i64 g1 64 F ∧ Arr wx .i64 g2 64 G ∧ Arr wx .i64 g3 64 (fun _ => 0)) ∧ Below w.heap.size w wx
section
variable {w w2 w3 : World} {F G : Nat → Int} {g1 c1 g2 c2 : Nat} {t : TypeId} (r2 : g1 < w2.heap.size) (r3 : 64 ≤ c1) (r4 : c1 ≤ maxLen) (r5 : Arr w2 .i64 g1 64 F) (s2 : g2 < w3.heap.size) (s3 : 64 ≤ c2) (s4 : c2 ≤ maxLen) (s5 : Arr w3 .i64 g2 64 G)
include r2 r3 r4 r5 s2 s3 s4 s5
omit s2 in
theorem sumsA (r1 : (w.alloc (Zb t)).drew.heap.size ≤ g1) (r6 : Below (w.alloc (Zb t)).drew.heap.size (w.alloc (Zb t)).drew w2) (s1 : w2.heap.size ≤ g2) (s6 : Below w2.heap.size w2 w3) : Sums w w3 F G (.slice (some ⟨g1, 0, none⟩) 64 c1) (.slice (some ⟨g2, 0, none⟩) 64 c2) (.slice (some ⟨w.heap.size, 0, none⟩) 64 64) := by
  have hs : (w.alloc (Zb t)).drew.heap.size = w.heap.size + 1 := by show (w.alloc (Zb t)).heap.size = _; simp
  have hz := r6.size
  have b := chain (((Below.refl w.heap.size w).alloc (Nat.le_refl _) (Zb t)).drew) r6
  exact ⟨g1, c1, g2, c2, _, rfl, rfl, rfl, ⟨by omega, by omega, by omega⟩, ⟨by omega, by omega, by omega⟩, ⟨⟨r3, r4⟩, s3, s4⟩, ⟨r5.below s6 r2, s5, (((zb_new w t).drew).below r6 (by omega)).below s6 (by omega)⟩, chain b s6⟩
omit s2 in
theorem sumsB (r1 : w.drew.heap.size ≤ g1) (r6 : Below w.drew.heap.size w.drew w2) (s1 : (w2.alloc (Zb t)).heap.size ≤ g2) (s6 : Below (w2.alloc (Zb t)).heap.size (w2.alloc (Zb t)) w3) : Sums w w3 F G (.slice (some ⟨g1, 0, none⟩) 64 c1) (.slice (some ⟨g2, 0, none⟩) 64 c2) (.slice (some ⟨w2.heap.size, 0, none⟩) 64 64) := by
  have hs : (w2.alloc (Zb t)).heap.size = w2.heap.size + 1 := by simp
  have b := chain ((Below.refl w.heap.size w).drew) r6
  have hz := b.size
  have hr : w.heap.size ≤ g1 := r1
  exact ⟨g1, c1, g2, c2, _, rfl, rfl, rfl, ⟨by omega, by omega, by omega⟩, ⟨by omega, by omega, by omega⟩, ⟨⟨r3, r4⟩, s3, s4⟩, ⟨(r5.alloc _).below s6 (by omega), s5, (zb_new w2 t).below s6 (by omega)⟩, chain (b.alloc hz _) s6⟩
theorem sumsC (r1 : w.drew.heap.size ≤ g1) (r6 : Below w.drew.heap.size w.drew w2) (s1 : w2.heap.size ≤ g2) (s6 : Below w2.heap.size w2 w3) : Sums w (w3.alloc (Zb t)) F G (.slice (some ⟨g1, 0, none⟩) 64 c1) (.slice (some ⟨g2, 0, none⟩) 64 c2) (.slice (some ⟨w3.heap.size, 0, none⟩) 64 64) := by
  have b := chain ((Below.refl w.heap.size w).drew) r6
  have hz := b.size
  have hr : w.heap.size ≤ g1 := r1
  have b3 := chain b s6
  exact ⟨g1, c1, g2, c2, _, rfl, rfl, rfl, ⟨by omega, by omega, b3.size⟩, ⟨by omega, by have := s6.size; omega, by omega⟩, ⟨⟨r3, r4⟩, s3, s4⟩, ⟨(r5.below s6 r2).alloc _, s5.alloc _, zb_new w3 t⟩, b3.alloc b3.size _⟩
end
theorem inv_small (f : Nat → Int) (h : okV f 64 = true) (i : Nat) (hi : i < 64) : -100000 ≤ invC f i ∧ invC f i ≤ 100000 := by
  have := inv_bd f h i hi
  unfold invC; omega

set_option maxRecDepth 100000 in
set_option maxHeartbeats 4000000 in
theorem sums_short (v v2 : Value) (a : Option Addr) (n cap : Nat) (hv : v = .slice a n cap) (a2 : Option Addr) (m cap2 : Nat) (hv2 : v2 = .slice a2 m cap2) (f h : Nat → Int) (w : World) (hs : Sl .i64 w v n f) (ht : Sl .i64 w v2 m h) (hn : n ≤ 64) (hm : m ≤ 64) :
    Calls Try.prog 4 #[v, v2] w fun e w' => e = .returned (.bool true) ∧ Below w.heap.size w w' := by
  have SL := Lib.hid hs
  have TL := Lib.hid ht
  have hmk := make64c
  subst hv hv2
  clear hs ht
  go_enter Try.func4, Try.ntmps4
  go_wp2_with fail
  refine (awake_true _).mono ?_
  rintro e w1 ⟨rfl, b1⟩
  have SL := Lib.hid (SL.out.below b1)
  have TL := Lib.hid (TL.out.below b1)
  have HB := Lib.hid b1
  clear b1
  have SQ := SL
  go_upto_region 4 with fail
  go_cut [6, 7, 8] from 28 (fun u6 u7 u8 wx => Sums w1 wx (mkP n f) (mkP m h) u6 u7 u8)
  case first =>
    go_region_with (first
      | (go_at_call 22; refine (made_any (.slice a n cap) n f _ (SQ.out.below (by first | exact (Below.refl _ _).drew | exact ((Below.refl _ _).alloc (Nat.le_refl _) _).drew)) hn).mono ?_; rintro e w2 ⟨g1, c1, rfl, r1, r2, r3, r4, r5, r6⟩; have C1 : Below w1.heap.size w1 w2 := chain (by first | exact (Below.refl _ _).drew | exact ((Below.refl _ _).alloc (Nat.le_refl _) _).drew) r6; have C1 := Lib.hid C1; clear SQ)
      | (go_at_call 22; refine (made_any (.slice a2 m cap2) m h _ (TL.out.below (by first | exact C1.out | exact C1.out.alloc C1.out.size _)) hm).mono ?_; rintro e w3 ⟨g2, c2, rfl, s1, s2, s3, s4, s5, s6⟩))
    all_goals (go_wp2_with fail; go_meet)
    all_goals first
      | exact sumsA (t := 3) r2 r3 r4 r5 s3 s4 s5 r1 r6 s1 s6
      | exact sumsB (t := 3) r2 r3 r4 r5 s3 s4 s5 r1 r6 s1 s6
      | exact sumsC (t := 3) r2 r3 r4 r5 s2 s3 s4 s5 r1 r6 s1 s6
  case rest =>
    obtain ⟨g1, c1, g2, c2, g3, rfl, rfl, rfl, ⟨p1, p2, p3⟩, ⟨n12, n13, n23⟩, ⟨⟨r6, r7⟩, s6, s7⟩, ⟨hT, hM, hL⟩, hB⟩ := hcut
    have z1 := HB.out.size
    have p1 : w.heap.size ≤ g1 := by omega
    have p2 : w.heap.size ≤ g2 := by omega
    have p3 : w.heap.size ≤ g3 := by omega
    have HB := Lib.hid (chain HB.out hB)
    have HT := Lib.hid hT
    have HM := Lib.hid hM
    have HL := Lib.hid hL
    clear hT hM hL hB hmk SL TL SQ
    obtain ⟨P, hP⟩ : ∃ P, P = mkP n f := ⟨_, rfl⟩
    obtain ⟨Q, hQ⟩ : ∃ Q, Q = mkP m h := ⟨_, rfl⟩
    have HP : Hid (∀ i, -2048 ≤ P i ∧ P i ≤ 2047) := Lib.hid (fun i => by rw [hP]; exact mkP_bd n f i)
    have HQ : Hid (∀ i, -2048 ≤ Q i ∧ Q i ≤ 2047) := Lib.hid (fun i => by rw [hQ]; exact mkP_bd m h i)
    rw [← hP] at HT
    rw [← hQ] at HM
    clear hP hQ
    go_wp2_with fail
    go_loopw [9] (fun i wr => ∃ k : Nat, k ≤ 64 ∧ i = .int .i64 k ∧ (Arr wr .i64 g1 64 (fun i => if i < k then P i / 2 else P i) ∧ Arr wr .i64 g2 64 (fun i => if i < k then Q i / 2 else Q i) ∧ Arr wr .i64 g3 64 (fun i => if i < k then P i / 2 + Q i / 2 else 0)) ∧ Below w.heap.size w wr) (fun i _ => 64 - (intOf i).toNat)
    case atStart => exact ⟨0, by omega, rfl, ⟨HT.out.congr (fun i _ => by simp), HM.out.congr (fun i _ => by simp), HL.out.start⟩, HB.out⟩
    case round =>
      obtain ⟨k, hk, rfl, ⟨hT, hM, hL⟩, hB⟩ := hrel
      by_cases hk64 : k < 64
      · have cT := hT k hk64
        have cM := hM k hk64
        have cL := hL k hk64
        simp only [Nat.lt_irrefl, if_false] at cT cM cL
        obtain ⟨cT1, cT2⟩ := cT
        obtain ⟨cM1, cM2⟩ := cM
        obtain ⟨cL1, cL2⟩ := cL
        have pb := HP.out k
        have qb := HQ.out k
        have kb : (0 : Int) ≤ (k : Int) ∧ (k : Int) < 64 := by omega
        have A1 := (hT.fill (P k / 2) rfl).far (a := ⟨g2, k, none⟩) n12.symm (.int .i64 (Q k / 2))
        have A2 := (hM.far (a := ⟨g1, k, none⟩) n12 (.int .i64 (P k / 2))).fill (Q k / 2) rfl
        have A3 := (hL.far (a := ⟨g1, k, none⟩) n13 (.int .i64 (P k / 2))).far (a := ⟨g2, k, none⟩) n23 (.int .i64 (Q k / 2))
        have d1 := (A1 k hk64).1
        have d2 := (A2 k hk64).1
        have d3 := A3 k hk64
        simp only [Nat.lt_irrefl, if_false, Nat.lt_succ_self, if_true] at d1 d2 d3
        obtain ⟨d3, d4⟩ := d3
        have x3 : IntKind.i64.wrap (P k / 2 + Q k / 2) = P k / 2 + Q k / 2 := IntWalk.i64_in _ (by omega)
        have HA1 := Lib.hid A1
        have HA2 := Lib.hid A2
        have HA3 := Lib.hid A3
        have HB := Lib.hid ((hB.setCell (p := ⟨g1, k, none⟩) p1 (.int .i64 (P k / 2))).setCell (p := ⟨g2, k, none⟩) p2 (.int .i64 (Q k / 2)))
        clear hT hM hL hB A1 A2 A3
        go_wp2_with fail
        go_region
        go_wp2
        go_roundw
        case rel => exact ⟨k + 1, by omega, by go_num, ⟨(HA1.out.far (a := ⟨g3, k, none⟩) n13.symm _).drew, (HA2.out.far (a := ⟨g3, k, none⟩) n23.symm _).drew, (HA3.out.fill _ rfl).drew⟩, (HB.out.setCell (p := ⟨g3, k, none⟩) p3 _).drew⟩
        case measure => simp [intOf]; omega
      · obtain ⟨F, hF⟩ : ∃ F : Nat → Int, F = fun i => P i / 2 := ⟨_, rfl⟩
        obtain ⟨G, hG⟩ : ∃ G : Nat → Int, G = fun i => Q i / 2 := ⟨_, rfl⟩
        have hT' : Arr wr .i64 g1 64 F := by
          obtain rfl : k = 64 := by omega
          rw [hF]; exact hT.filled
        have hM' : Arr wr .i64 g2 64 G := by
          obtain rfl : k = 64 := by omega
          rw [hG]; exact hM.filled
        have hL' : Arr wr .i64 g3 64 (fun i => F i + G i) := by
          obtain rfl : k = 64 := by omega
          rw [hF, hG]; exact hL.filled
        have HF0 : Hid (∀ i, -2048 ≤ F i ∧ F i ≤ 2047) := Lib.hid (fun i => by rw [hF]; have := HP.out i; exact ⟨by show -2048 ≤ P i / 2; omega, by show P i / 2 ≤ 2047; omega⟩)
        have HG0 : Hid (∀ i, -2048 ≤ G i ∧ G i ≤ 2047) := Lib.hid (fun i => by rw [hG]; have := HQ.out i; exact ⟨by show -2048 ≤ Q i / 2; omega, by show Q i / 2 ≤ 2047; omega⟩)
        have HS0 : Hid (∀ i, -2048 ≤ (fun i => F i + G i) i ∧ (fun i => F i + G i) i ≤ 2047) := Lib.hid (fun i => by rw [hF, hG]; have := HP.out i; have := HQ.out i; exact ⟨by show -2048 ≤ P i / 2 + Q i / 2; omega, by show P i / 2 + Q i / 2 ≤ 2047; omega⟩)
        have hk' : 64 ≤ k := by omega
        have a1 := hT.lt (by omega)
        have a2 := hM.lt (by omega)
        have a3 := hL.lt (by omega)
        have HT := Lib.hid hT'
        have HM := Lib.hid hM'
        have HL := Lib.hid hL'
        have HB := Lib.hid hB
        clear hT hM hL hB hT' hM' hL' hk hk64 hF hG
        go_wp2_with fail
        refine (Inverse_any _ 64 F _ (Arr.sl r6 r7 a1 HT.out)).mono ?_
        rintro e w4 ⟨va, rfl, hR, bb⟩
        rw [vE_ok (bd_ok HF0.out)]
        rw [vN_ok (bd_ok HF0.out)] at hR
        rcases hR with ⟨h0, _⟩ | ⟨h1, d1, rfl, _, q1, _, _, q5⟩
        · exact absurd h0 (by decide)
        have HM := Lib.hid (HM.out.below bb a2)
        have HL := Lib.hid (HL.out.below bb a3)
        have R1 := Lib.hid q5
        have HB := Lib.hid (chain HB.out bb)
        have zz := bb.size
        have a2 := Nat.lt_of_lt_of_le a2 zz
        have a3 := Nat.lt_of_lt_of_le a3 zz
        clear bb q5 zz
        go_wp2_with fail
        refine (Inverse_any _ 64 G _ (Arr.sl s6 s7 a2 HM.out)).mono ?_
        rintro e w5 ⟨va, rfl, hR, bb⟩
        rw [vE_ok (bd_ok HG0.out)]
        rw [vN_ok (bd_ok HG0.out)] at hR
        rcases hR with ⟨h0, _⟩ | ⟨h2, d2, rfl, _, q2, _, _, q5⟩
        · exact absurd h0 (by decide)
        have R1 := Lib.hid (R1.out.below bb q1)
        have HL := Lib.hid (HL.out.below bb a3)
        have R2 := Lib.hid q5
        have HB := Lib.hid (chain HB.out bb)
        have zz := bb.size
        have q1 := Nat.lt_of_lt_of_le q1 zz
        have a3 := Nat.lt_of_lt_of_le a3 zz
        clear bb q5 zz
        go_wp2_with fail
        refine (Inverse_any _ 64 (fun i => F i + G i) _ (Arr.sl (by decide) (by decide) a3 HL.out)).mono ?_
        rintro e w6 ⟨va, rfl, hR, bb⟩
        rw [vE_ok (bd_ok HS0.out)]
        rw [vN_ok (bd_ok HS0.out)] at hR
        rcases hR with ⟨h0, _⟩ | ⟨h3, d3, rfl, _, q3, _, _, q5⟩
        · exact absurd h0 (by decide)
        have R1 := Lib.hid (R1.out.below bb q1)
        have R2 := Lib.hid (R2.out.below bb q2)
        have R3 := Lib.hid q5
        have HB := Lib.hid (chain HB.out bb)
        have zz := bb.size
        have q1 := Nat.lt_of_lt_of_le q1 zz
        have q2 := Nat.lt_of_lt_of_le q2 zz
        clear bb q5 zz
        have IS := Lib.hid (inv_sum F G (bd_Bd HF0.out) (bd_Bd HG0.out) (bd_Bd HS0.out))
        have I1 := Lib.hid (inv_small F (bd_ok HF0.out))
        have I2 := Lib.hid (inv_small G (bd_ok HG0.out))
        have I3 := Lib.hid (inv_small _ (bd_ok HS0.out))
        go_wp2_with fail
        go_loopw [16] (fun i wr => ∃ k : Nat, k ≤ 64 ∧ i = .int .i64 k ∧ ∃ mm, wr = w6.drewN mm) (fun i _ => 64 - (intOf i).toNat)
        case atStart => exact ⟨0, by omega, rfl, 0, rfl⟩
        case round =>
          obtain ⟨x, hx, rfl, mm, rfl⟩ := hrel
          by_cases hx64 : x < 64
          · have cX := (R1.out x hx64).1
            have cY := (R2.out x hx64).1
            have cZ := (R3.out x hx64).1
            have i1 := I1.out x hx64
            have i2 := I2.out x hx64
            have i3 := I3.out x hx64
            have is := IS.out x hx64
            obtain ⟨X, hX⟩ : ∃ X, X = invC F x := ⟨_, rfl⟩
            obtain ⟨Y, hY⟩ : ∃ Y, Y = invC G x := ⟨_, rfl⟩
            obtain ⟨Z, hZ⟩ : ∃ Z, Z = invC (fun i => F i + G i) x := ⟨_, rfl⟩
            rw [← hX] at cX i1 is
            rw [← hY] at cY i2 is
            rw [← hZ] at cZ i3 is
            have xb : (0 : Int) ≤ (x : Int) ∧ (x : Int) < 64 := by omega
            have e1 : IntKind.i64.wrap (Z - X) = Z - X := IntWalk.i64_in _ (by omega)
            have e2 : IntKind.i64.wrap (Z - X - Y) = Z - X - Y := IntWalk.i64_in _ (by omega)
            have d1 : decide (Z - X - Y < -1) = false := by simp; omega
            have d2 : decide (1 < Z - X - Y) = false := by simp; omega
            clear hX hY hZ
            go_wp2_with fail
            go_quiet (fail)
            go_wp2
            go_roundw
            case rel => exact ⟨x + 1, by omega, by go_num, _, rfl⟩
            case measure => simp [intOf]; omega
          · go_wp2_with fail
            go_ret
            exact ⟨rfl, below_drewN HB.out _⟩
set_option maxRecDepth 100000 in
theorem CosineSums_walk (a : Option Addr) (n cap : Nat) (zs : List Int) (a2 : Option Addr) (m cap2 : Nat) (ys : List Int) (w : World) (w0 : IsRow .i64 w a n cap zs) (w1 : IsRow .i64 w a2 m cap2 ys) :
    Calls Try.prog 4 #[.slice a n cap, .slice a2 m cap2] w fun e w' => e = .returned (.bool true) ∧ Below w.heap.size w w' := by
  obtain ⟨hs, _⟩ := w0.sl
  obtain ⟨ht, _⟩ := w1.sl
  by_cases h : n ≤ 64
  · by_cases hm : m ≤ 64
    · exact sums_short _ _ a n cap rfl a2 m cap2 rfl _ _ w hs ht h hm
    · clear hs ht w0 w1
      go_enter Try.func4, Try.ntmps4
      go_wp2_with (go_at_call 16; refine (awake_true _).mono ?_; rintro e w1 ⟨rfl, hw⟩)
      go_ret
      exact ⟨rfl, hw⟩
  · clear hs ht w0 w1
    go_enter Try.func4, Try.ntmps4
    go_wp2_with (go_at_call 16; refine (awake_true _).mono ?_; rintro e w1 ⟨rfl, hw⟩)
    go_ret
    exact ⟨rfl, hw⟩
end Co
end Go.Proofs.Ytkeefdlnolcapaa
