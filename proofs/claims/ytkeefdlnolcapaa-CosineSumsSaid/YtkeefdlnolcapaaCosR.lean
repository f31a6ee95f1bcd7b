/- The document's weights and Line. -/
import Derived.Test.YtkeefdlnolcapaaCosV
import Derived.BigQuiet
namespace Go.Proofs.Ytkeefdlnolcapaa
open Go.RowKit
namespace Co

theorem tab_new (w : World) (t : TypeId) (j : Nat) (hj : j < 9) : (w.alloc (.cells #[.int .i64 2048, .int .i64 2009, .int .i64 1892, .int .i64 1703, .int .i64 1448, .int .i64 1138, .int .i64 784, .int .i64 400, .int .i64 0] t)).cell? ⟨w.heap.size, j, none⟩ = some (.int .i64 (tab j)) :=
  ((Arr.new w .i64 _ t 9 tab (fun i hi => by
    rcases (by omega : i = 0 ∨ i = 1 ∨ i = 2 ∨ i = 3 ∨ i = 4 ∨ i = 5 ∨ i = 6 ∨ i = 7 ∨ i = 8) with rfl | rfl | rfl | rfl | rfl | rfl | rfl | rfl | rfl <;> rfl)) j hj).1
theorem c_small (k : Nat) (hk : k ≤ 16) (w : World) : Calls Try.prog 52 #[.int .i64 k] w fun e w' => e = .returned (.int .i64 (cosS k)) ∧ Below w.heap.size w w' := by
  have hb : Hid (Below w.heap.size w (w.alloc (.cells #[.int .i64 2048, .int .i64 2009, .int .i64 1892, .int .i64 1703, .int .i64 1448, .int .i64 1138, .int .i64 784, .int .i64 400, .int .i64 0] 3))) := Lib.hid ((Below.refl _ _).alloc (Nat.le_refl _) _)
  by_cases h8 : k > 8
  · obtain ⟨j, hj⟩ : ∃ j, j = 16 - k := ⟨_, rfl⟩
    have je : 16 - (k : Int) = (j : Int) := by omega
    have jb : (0 : Int) ≤ (j : Int) ∧ (j : Int) < 9 := by omega
    have tc := tab_new w 3 j (by omega)
    have tb := tab_bd j (by omega)
    have EV : Hid (cosS k = -tab j) := Lib.hid (by unfold cosS; rw [if_pos h8, hj])
    clear hj
    go_enter Try.func52, Try.ntmps52
    go_wp2
    go_ret
    exact ⟨by rw [EV.out]; rfl, hb.out⟩
  · have tc := tab_new w 3 k (by omega)
    have kb : (0 : Int) ≤ (k : Int) ∧ (k : Int) < 9 := by omega
    have EV : Hid (cosS k = tab k) := Lib.hid (by unfold cosS; rw [if_neg h8])
    go_enter Try.func52, Try.ntmps52
    go_wp2
    go_ret
    exact ⟨by rw [EV.out]; rfl, hb.out⟩
theorem c_any (k : Nat) (hk : k < 32) (w : World) : Calls Try.prog 52 #[.int .i64 k] w fun e w' => e = .returned (.int .i64 (cosT k)) ∧ Below w.heap.size w w' := by
  by_cases h16 : k > 16
  · have ev : cosT k = cosS (32 - k) := by unfold cosT; rw [if_pos h16]
    have e1 : (32 - (k : Int)) = ((32 - k : Nat) : Int) := by omega
    have EV := Lib.hid ev
    have E1 := Lib.hid e1
    clear ev e1
    have hb : Hid (Below w.heap.size w (w.alloc (.cells #[.int .i64 2048, .int .i64 2009, .int .i64 1892, .int .i64 1703, .int .i64 1448, .int .i64 1138, .int .i64 784, .int .i64 400, .int .i64 0] 3))) := Lib.hid ((Below.refl _ _).alloc (Nat.le_refl _) _)
    go_enter Try.func52, Try.ntmps52
    go_wp2_with (go_at_call 52; rw [E1.out]; refine (c_small (32 - k) (by omega) _).mono ?_; rintro e w1 ⟨rfl, hw⟩)
    go_ret
    exact ⟨by rw [EV.out]; rfl, chain hb.out hw⟩
  · have ev : cosT k = cosS k := by unfold cosT; rw [if_neg h16]
    rw [ev]
    exact c_small k (by omega) w
theorem c_at (K : Int) (k : Nat) (hK : K = k) (hk : k < 32) (w : World) : Calls Try.prog 52 #[.int .i64 K] w fun e w' => e = .returned (.int .i64 (cosT k)) ∧ Below w.heap.size w w' := by
  subst hK; exact c_any k hk w
theorem rweight_any (u x : Nat) (hu : u < 8) (hx : x < 8) (w : World) : Calls Try.prog 45 #[.int .i64 u, .int .i64 x] w fun e w' => e = .returned (.int .i64 (Wt u x)) ∧ Below w.heap.size w w' := by
  have ub : (0 : Int) ≤ (u : Int) ∧ (u : Int) < 8 := by omega
  have xb : (0 : Int) ≤ (x : Int) ∧ (x : Int) < 8 := by omega
  by_cases hu0 : u = 0
  · subst hu0
    go_enter Try.func45, Try.ntmps45
    go_wp2
    go_ret
    exact ⟨rfl, Below.refl _ _⟩
  · obtain ⟨p, hp⟩ : ∃ p, p = (2 * x + 1) * u := ⟨_, rfl⟩
    have pb : p ≤ 105 := by rw [hp]; exact Nat.mul_le_mul (show 2 * x + 1 ≤ 15 by omega) (show u ≤ 7 by omega)
    have pe : (2 * (x : Int) + 1) * (u : Int) = (p : Int) := by rw [hp]; push_cast; rfl
    have t1 : (p : Int).tmod 32 = (p : Int) % 32 := Int.tmod_eq_emod_of_nonneg (by omega)
    have ev : Hid (cosT (p % 32) = Wt u x) := Lib.hid (by rw [hp, wt_turn u x hu0])
    have kd : ((u : Int) == 0) = false := by simp; omega
    clear hp
    go_enter Try.func45, Try.ntmps45
    go_wp2_with (go_at_call 52; refine (c_at _ (p % 32) (by omega) (by omega) _).mono ?_; rintro e w1 ⟨rfl, hw⟩)
    go_ret
    exact ⟨by rw [← ev.out]; rfl, hw⟩
theorem rweight_at (U X : Int) (u x : Nat) (hU : U = u) (hX : X = x) (hu : u < 8) (hx : x < 8) (w : World) : Calls Try.prog 45 #[.int .i64 U, .int .i64 X] w fun e w' => e = .returned (.int .i64 (Wt u x)) ∧ Below w.heap.size w w' := by
  subst hU hX; exact rweight_any u x hu hx w
theorem rWeight_in (u x : Nat) (hu : u < 8) (hx : x < 8) (w : World) : Calls Try.prog 26 #[.int .i64 u, .int .i64 x] w fun e w' => e = .returned (.tuple #[.int .i64 (Wt u x), .int .i64 0]) ∧ Below w.heap.size w w' := by
  have ub : (0 : Int) ≤ (u : Int) ∧ (u : Int) < 8 := by omega
  have xb : (0 : Int) ≤ (x : Int) ∧ (x : Int) < 8 := by omega
  go_enter Try.func26, Try.ntmps26
  go_wp2_with (go_at_call 45; refine (rweight_any u x hu hx _).mono ?_; rintro e w1 ⟨rfl, hw⟩)
  go_ret2
  exact ⟨rfl, hw⟩
theorem rWeight_any (u x : Int) (w : World) : Calls Try.prog 26 #[.int .i64 u, .int .i64 x] w fun e w' => e = .returned (.tuple #[.int .i64 (wV u x), .int .i64 (wE u x)]) ∧ Below w.heap.size w w' := by
  by_cases h : u < 0 ∨ 7 < u ∨ x < 0 ∨ 7 < x
  · have e1 : wV u x = 0 := by unfold wV; rw [if_pos h]
    have e2 : wE u x = 3 := by unfold wE; rw [if_pos h]
    have E1 := Lib.hid e1
    have E2 := Lib.hid e2
    clear e1 e2
    rcases h with h | h | h | h
    · go_enter Try.func26, Try.ntmps26
      go_wp2
      go_ret2
      exact ⟨by rw [E1.out, E2.out]; rfl, Below.refl _ _⟩
    · have h0 : ¬ u < 0 := by omega
      go_enter Try.func26, Try.ntmps26
      go_wp2
      go_ret2
      exact ⟨by rw [E1.out, E2.out]; rfl, Below.refl _ _⟩
    · by_cases g : u < 0 ∨ 7 < u
      · rcases g with g | g
        · go_enter Try.func26, Try.ntmps26
          go_wp2
          go_ret2
          exact ⟨by rw [E1.out, E2.out]; rfl, Below.refl _ _⟩
        · have h0 : ¬ u < 0 := by omega
          go_enter Try.func26, Try.ntmps26
          go_wp2
          go_ret2
          exact ⟨by rw [E1.out, E2.out]; rfl, Below.refl _ _⟩
      · have h0 : ¬ u < 0 := by omega
        have h1 : ¬ 7 < u := by omega
        clear g
        go_enter Try.func26, Try.ntmps26
        go_wp2
        go_ret2
        exact ⟨by rw [E1.out, E2.out]; rfl, Below.refl _ _⟩
    · by_cases g : u < 0 ∨ 7 < u ∨ x < 0
      · rcases g with g | g | g
        · go_enter Try.func26, Try.ntmps26
          go_wp2
          go_ret2
          exact ⟨by rw [E1.out, E2.out]; rfl, Below.refl _ _⟩
        · have h0 : ¬ u < 0 := by omega
          go_enter Try.func26, Try.ntmps26
          go_wp2
          go_ret2
          exact ⟨by rw [E1.out, E2.out]; rfl, Below.refl _ _⟩
        · omega
      · have h0 : ¬ u < 0 := by omega
        have h1 : ¬ 7 < u := by omega
        have h2 : ¬ x < 0 := by omega
        clear g
        go_enter Try.func26, Try.ntmps26
        go_wp2
        go_ret2
        exact ⟨by rw [E1.out, E2.out]; rfl, Below.refl _ _⟩
  · have e1 : wV u x = Wt u.toNat x.toNat := by unfold wV; rw [if_neg h]
    have e2 : wE u x = 0 := by unfold wE; rw [if_neg h]
    rw [e1, e2]
    have := rWeight_in u.toNat x.toNat (by omega) (by omega) w
    rwa [show ((u.toNat : Nat) : Int) = u by omega, show ((x.toNat : Nat) : Int) = x by omega] at this

theorem ownsRow_below {w w' : World} {B : Nat} {e : TypeId} {v : Value} {n : Nat} {xs : List Value} (h : w.ownsRow B e 1 v n xs) (hb : Below w.heap.size w w') : w'.ownsRow B e 1 v n xs :=
  h.kept (grown_of_below hb none) (by cases v.ownBlock <;> simp)
theorem rline_long (a : Option Addr) (n c : Nat) (f : Nat → Int) (w : World) (h : n ≠ 8) :
    Calls Try.prog 24 #[.slice a n c] w (Lines w n f) := by
  have e1 : lE n f = 2 := by unfold lE; rw [if_neg h]
  have e2 : lN n f = 0 := by unfold lN; rw [if_neg h]
  have k : ((n : Int) == 8) = false := by simp; omega
  have E1 := Lib.hid e1
  have E2 := Lib.hid e2
  clear e1 e2
  go_enter Try.func24, Try.ntmps24
  go_wp2
  go_ret2
  exact ⟨.slice none 0 0, by rw [E1.out]; rfl, by rw [E2.out]; exact .inl ⟨rfl, rfl⟩, Below.refl _ _⟩

theorem info_intR : (Try.prog.info? 3).map (fun i => (i.zero, i.size, i.bytes)) = some (some (.int .i64 0), 1, 8) := by kernel_rfl
theorem okL_bd {f : Nat → Int} {k : Nat} (h : okL f k = true) (u : Nat) (hu : u < k) : -1099511627776 ≤ f u ∧ f u ≤ 1099511627776 := inR_yes (okR_at h u hu)
theorem lineC_sum {f : Nat → Int} (h : okL f 8 = true) (x : Nat) (hx : x < 8) : sumN 8 (fun u => Wt u x * f u) = lineC f x := (accW_sum f 1099511627776 (by omega) (fun u hu => okL_bd h u hu) x hx 8 (Nat.le_refl 8)).symm
set_option maxRecDepth 100000 in
set_option maxHeartbeats 2000000 in
theorem rline_row (b o c : Nat) (f : Nat → Int) (w : World) (h : Ints w .i64 b o 8 f) :
    Calls Try.prog 24 #[.slice (some ⟨b, o, none⟩) 8 c] w (Lines w 8 f) := by
  obtain ⟨i0, hi, hz0, hz1, hz2⟩ := info_parts info_intR
  have hblt := h.lt (by omega)
  have H := Lib.hid h
  have HE : Hid (lE 8 f = if okL f 8 then 0 else 3) := by show _ = _; unfold lE; rw [if_pos rfl]
  have HN : Hid (lN 8 f = if okL f 8 then 8 else 0) := by show _ = _; unfold lN; rw [if_pos rfl]
  clear h
  go_enter Try.func24, Try.ntmps24
  go_wp2
  go_loopw [4, 5] (fun v i wr => ∃ x : Nat, x ≤ 8 ∧ i = .int .i64 x ∧ wr.ownsRow w.heap.size 3 1 v x ((List.range x).map fun i => .int .i64 (lineC f i)) ∧ Hid (0 < x → okL f 8 = true) ∧ Below w.heap.size w wr) (fun _ i _ => 8 - (intOf i).toNat)
  case atStart => exact ⟨0, by omega, rfl, World.ownsRow_nil _ _ _ _, Lib.hid (fun h => by omega), Below.refl _ _⟩
  case round =>
    obtain ⟨x, hx, rfl, hown, hok, hB⟩ := hrel
    by_cases hx8 : x < 8
    · obtain ⟨wo, rfl⟩ : ∃ wo : World, wo = wr := ⟨_, rfl⟩
      have xb : (0 : Int) ≤ (x : Int) ∧ (x : Int) < 8 := by omega
      have HX := Lib.hid (H.out.below hB hblt)
      have blo : b < wo.heap.size := Nat.lt_of_lt_of_le hblt hB.size
      have OWN := Lib.hid hown
      have HB := Lib.hid hB
      clear hown hB hok
      go_wp2
      go_loopw [6, 7] (fun s i wr => ∃ u : Nat, u ≤ 8 ∧ s = .int .i64 (sumN u (fun u => Wt u x * f u)) ∧ i = .int .i64 u ∧ okL f u = true ∧ Below wo.heap.size wo wr) (fun _ i _ => 8 - (intOf i).toNat)
      case atStart => exact ⟨0, by omega, rfl, rfl, rfl, Below.refl _ _⟩
      case round =>
        obtain ⟨u, hu, rfl, rfl, hok, hBi⟩ := hrel
        by_cases hu8 : u < 8
        · have cu := (HX.out.below hBi blo).at u hu8
          have ub : (0 : Int) ≤ (u : Int) ∧ (u : Int) < 8 := by omega
          have OK := Lib.hid hok
          have HBi := Lib.hid hBi
          clear hok hBi
          cases hkk : inR (-1099511627776) 1099511627776 (f u)
          · have EA : Hid (okL f 8 = false) := Lib.hid (okR_not hu8 hkk)
            rcases inR_no hkk with g | g
            · have _d : decide (f u < -1099511627776) = true := by simp; omega
              clear hkk
              go_wp2
              go_ret2
              exact ⟨.slice none 0 0, by rw [HE.out, EA.out]; rfl, by rw [HN.out, EA.out]; exact .inl ⟨rfl, rfl⟩, chain HB.out HBi.out⟩
            · have _d : decide (f u < -1099511627776) = false := by simp; omega
              have _d2 : decide (1099511627776 < f u) = true := by simp; omega
              clear hkk
              go_wp2
              go_ret2
              exact ⟨.slice none 0 0, by rw [HE.out, EA.out]; rfl, by rw [HN.out, EA.out]; exact .inl ⟨rfl, rfl⟩, chain HB.out HBi.out⟩
          · have g := inR_yes hkk
            have _d : decide (f u < -1099511627776) = false := by simp; omega
            have _d2 : decide (1099511627776 < f u) = false := by simp; omega
            have OK2 : Hid (okL f (u + 1) = true) := Lib.hid (by have := OK.out; unfold okL at *; rw [okR_succ, this, hkk]; rfl)
            have b1 := sumN_bd u (fun u => Wt u x * f u) (2048 * 1099511627776) (fun i hi => mul_bd _ _ _ _ (Wt_bd i x (by omega) hx8) (okL_bd OK.out i hi))
            have b2 := mul_bd _ _ _ _ (Wt_bd u x hu8 hx8) g
            have b3 : (u : Int) * (2048 * 1099511627776) ≤ 8 * (2048 * 1099511627776) := Int.mul_le_mul_of_nonneg_right (by omega) (by omega)
            have ev : Hid (sumN (u + 1) (fun u => Wt u x * f u) = sumN u (fun u => Wt u x * f u) + Wt u x * f u) := Lib.hid rfl
            obtain ⟨S, hS⟩ : ∃ S, S = sumN u (fun u => Wt u x * f u) := ⟨_, rfl⟩
            obtain ⟨p, hp⟩ : ∃ p, p = Wt u x * f u := ⟨_, rfl⟩
            rw [← hS] at b1
            rw [← hp] at b2
            rw [← hS, ← hp] at ev
            have pe : Wt u x * f u = p := hp.symm
            have w1 : IntKind.i64.wrap p = p := IntWalk.i64_in _ (by omega)
            have w2 : IntKind.i64.wrap (S + p) = S + p := IntWalk.i64_in _ (by omega)
            rw [← hS]
            clear hkk hS hp b1 b2 b3
            have c := Past.cell cu
            go_wp2_with fail
            refine wp_region_past (by kernel_rfl) (by kernel_rfl) ?_
            repeat (go_big_quiet_step ((go_at_call 45; exact past_call (rweight_any u x hu8 hx8 _))))
            refine wpQuiet_nil ?_
            rintro _ ⟨⟨w4, h4⟩, rfl⟩
            go_wp2
            go_roundw
            case rel => exact ⟨u + 1, by omega, by rw [ev.out], by go_num, OK2.out, chain HBi.out h4⟩
            case measure => simp [intOf]; omega
        · have hok8 : okL f 8 = true := by
            obtain rfl : u = 8 := by omega
            exact hok
          have hu' : 8 ≤ u := by omega
          have sv : sumN u (fun u => Wt u x * f u) = lineC f x := by
            obtain rfl : u = 8 := by omega
            exact lineC_sum hok x hx8
          rw [sv]
          have OK8 := Lib.hid hok8
          have OWN := Lib.hid (ownsRow_below OWN.out hBi)
          have HB := Lib.hid (chain HB.out hBi)
          have sz := HB.out.size
          clear hok hok8 hBi sv hu hu8
          go_wp2_with (at_builtin; refine wpList_append_own _ rfl _ _ 22 rfl w.heap.size 3 i0 (.int .i64 0) 1 8 Try.underlying22 hi hz0 hz1 hz2 rfl (by decide) _ _ _ rfl (OWN.out.alloc _) ⟨wr.heap.size, 0, none⟩ 1 1 [.int .i64 (lineC f x)] rfl rfl (cell_one_new _ _ _) (by simp [Value.oneCell']) (by unfold maxLen; omega) (by omega) (by simp; omega) ?_; intro v' w1 hown2 hgr hnil)
          have hB1 : Below w.heap.size w w1 := (HB.out.alloc sz (.cells #[.int .i64 (lineC f x)] 3)).grown hgr (by simp; omega) (fun q hq => (OWN.out.lt q hq).1)
          have hown3 : w1.ownsRow w.heap.size 3 1 v' (x + 1) ((List.range (x + 1)).map fun i => .int .i64 (lineC f i)) := by rw [← range_snoc]; exact hown2
          clear hown2 hgr hnil
          go_roundw
          case rel => exact ⟨x + 1, by omega, by go_num, hown3, Lib.hid (fun _ => OK8.out), hB1⟩
          case measure => simp [intOf]; omega
    · have hok8 : okL f 8 = true := hok.out (by omega)
      have hown8 : Res .i64 w.heap.size wr u4 8 (lineC f) := by
        obtain rfl : x = 8 := by omega
        exact Res.of_own hown
      have HE' : Hid (lE 8 f = 0) := Lib.hid (by rw [HE.out, hok8]; rfl)
      have HN' : Hid (lN 8 f = 8) := Lib.hid (by rw [HN.out, hok8]; rfl)
      have RR := Lib.hid hown8
      have HB := Lib.hid hB
      have hx' : 8 ≤ x := by omega
      clear hown hok hok8 hown8 hB hx hx8
      go_wp2
      go_ret2
      exact ⟨_, by rw [HE'.out]; rfl, by rw [HN'.out]; exact RR.out, HB.out⟩
theorem rLine_any (v : Value) (n : Nat) (f : Nat → Int) (w : World) (hs : Sl .i64 w v n f) :
    Calls Try.prog 24 #[v] w (Lines w n f) := by
  obtain ⟨a, c, rfl, h1, h2, h3⟩ := hs
  by_cases h : n = 8
  · subst h
    rcases h3 with ⟨h3, _⟩ | ⟨b, o, rfl, _, h4⟩
    · omega
    · exact rline_row b o c f w h4
  · exact rline_long a n c f w h
end Co
end Go.Proofs.Ytkeefdlnolcapaa
