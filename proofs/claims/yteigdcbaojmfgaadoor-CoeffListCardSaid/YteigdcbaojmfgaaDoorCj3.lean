/- CoeffList: the walk. -/
import Derived.Test.YteigdcbaojmfgaaDoorCj2
import Derived.Lib.SmallJoins
namespace Go.Proofs.YteigdcbaojmfgaaDoor
open Go.RowKit
set_option linter.unusedSimpArgs false
set_option linter.unusedVariables false
namespace Cf
/-- what holds in CoeffList's first loop. -/
structure L1 (w : World) (v1 v2 v8 : Value) (n1 n2 k : Nat) (xs ys R L : Nat → Int) (V : World) : Prop where
  tw : Tabs w
  b : Below w.heap.size w V
  w1 : Sl .i64 w v1 n1 xs
  w2 : Sl .i64 w v2 n2 ys
  o : V.ownsRow w.heap.size 26 2 v8 k (prC R L k)
theorem L1.t {w V : World} {v1 v2 v8 : Value} {n1 n2 k : Nat} {xs ys R L : Nat → Int} (h : L1 w v1 v2 v8 n1 n2 k xs ys R L V) : Tabs V := h.tw.below h.b
theorem L1.s1 {w V : World} {v1 v2 v8 : Value} {n1 n2 k : Nat} {xs ys R L : Nat → Int} (h : L1 w v1 v2 v8 n1 n2 k xs ys R L V) : Sl .i64 V v1 n1 xs := h.w1.below h.b
theorem L1.s2 {w V : World} {v1 v2 v8 : Value} {n1 n2 k : Nat} {xs ys R L : Nat → Int} (h : L1 w v1 v2 v8 n1 n2 k xs ys R L V) : Sl .i64 V v2 n2 ys := h.w2.below h.b
theorem own_kept {V V' : World} {B n s : Nat} {e : TypeId} {v : Value} {l : List Value} (h : V.ownsRow B e s v n l) (hb : Below V.heap.size V V') : V'.ownsRow B e s v n l := h.kept (grown_of_below hb none) (by
    by_cases h0 : v.ownBlock = none
    · exact .inl h0
    · exact .inr h0)
theorem L1.below {w V V' : World} {v1 v2 v8 : Value} {n1 n2 k : Nat} {xs ys R L : Nat → Int} (h : L1 w v1 v2 v8 n1 n2 k xs ys R L V) (hb : Below V.heap.size V V') : L1 w v1 v2 v8 n1 n2 k xs ys R L V' :=
  ⟨h.tw, chain h.b hb, h.w1, h.w2, own_kept h.o hb⟩
theorem L1.push {w V W5 : World} {v1 v2 v8 v5 : Value} {n1 n2 HL5k : Nat} {xs ys R L : Nat → Int} {r l : Int} {o : Obj} (h : L1 w v1 v2 v8 n1 n2 HL5k xs ys R L V) (hp : prC R L (HL5k + 1) = prC R L HL5k ++ [.int .i64 r, .int .i64 l]) (h5 : W5.ownsRow w.heap.size 26 2 v5 (HL5k + 1) (prC R L HL5k ++ [.int .i64 r, .int .i64 l])) (hg : (V.alloc o).grownBy W5 v8.ownBlock) : L1 w v1 v2 v5 n1 n2 (HL5k + 1) xs ys R L W5 := by
  have z := h.b.size
  have b5 : Below w.heap.size w W5 := (h.b.alloc z o).grown hg (by simp; omega) (fun q hq => (h.o.lt q hq).1)
  exact ⟨h.tw, b5, h.w1, h.w2, by rw [hp]; exact h5⟩
/-- what holds in the second loop. -/
structure L2 (w : World) (v8 : Value) (n gb N : Nat) (F R L : Nat → Int) (V : World) : Prop where
  t : Tabs V
  b : Below w.heap.size w V
  a : Arr V .u8 gb N F
  g : gb < V.heap.size
  o : V.ownsRow w.heap.size 26 2 v8 n (prC R L n)
theorem L2.below {w V V' : World} {v8 : Value} {n gb N : Nat} {F R L : Nat → Int} (h : L2 w v8 n gb N F R L V) (hb : Below V.heap.size V V') : L2 w v8 n gb N F R L V' :=
  ⟨h.t.below hb, chain h.b hb, h.a.below hb h.g, Nat.lt_of_lt_of_le h.g hb.size, own_kept h.o hb⟩
theorem sv_app (a b : List Bool) (S U : ByteArray) (hS : sv (cs a) = .string S) (hU : sv (cs b) = .string U) : Value.string (S ++ U) = sv (cs (a ++ b)) := by
  have hS' := Value.string.inj hS
  have hU' := Value.string.inj hU
  rw [← hS', ← hU']
  unfold sv
  exact congrArg Value.string (by apply ByteArray.ext; simp [cs])
section
set_option maxRecDepth 100000
set_option maxHeartbeats 8000000
theorem CoeffList_true (v1 v2 : Value) (n1 n2 : Nat) (xs ys : Nat → Int) (w : World) (h1 : Sl .i64 w v1 n1 xs) (h2 : Sl .i64 w v2 n2 ys) (hn1 : n1 ≤ 40) (hT : Tabs w) :
    Calls Tryd.prog 5 #[v1, v2, .bool true] w fun e w' => e = .returned (.bool true) ∧ Below w.heap.size w w' := by
  obtain ⟨i0, hi, hz0, hz1, hz2i⟩ := info_parts info_pair
  obtain ⟨R, hR⟩ : ∃ R : Nat → Int, R = fun i => xs i % 64 := ⟨_, rfl⟩
  obtain ⟨L, hL⟩ : ∃ R : Nat → Int, R = fun i => ofL (ys i) := ⟨_, rfl⟩
  have HP := Lib.hid (fun i => show pairB (R i) (L i) = true by rw [hR, hL]; exact of_pair _ _)
  have HO := Lib.hid (fun i W => show Calls Tryd.prog 14 #[.int .i64 (xs i), .int .i64 (ys i)] W fun e w' => e = .returned (prV (R i) (L i)) ∧ Below W.heap.size W w' by rw [hR, hL]; exact of_any _ _ W)
  have HA := Lib.hid (fun W h => awake_any W h)
  obtain ⟨n, hn⟩ : ∃ n, min n1 n2 = n := ⟨_, rfl⟩
  have hn40 : n ≤ 40 := by omega
  have hnA : n ≤ n1 := by omega
  have hnB : n ≤ n2 := by omega
  have hnC : n = n1 ∨ n = n2 := by omega
  clear hn
  have A := Lib.hid (AW.new hT)
  have HS1 := Lib.hid h1
  have HS2 := Lib.hid h2
  clear hR hL hT
  obtain ⟨a1, c1, hv1, _, _, _⟩ := h1
  obtain ⟨a2, c2, hv2, _, _, _⟩ := h2
  have HV1 := Lib.hid hv1
  have HV2 := Lib.hid hv2
  have t40 : ¬ (n1 : Int) > 40 := by omega
  rw [hv1, hv2]
  clear hv1 hv2
  go_enter Tryd.func5, Tryd.ntmps5
  go_wp2_with (go_at_call 9; refine (HA.out _ A.out.t).mono ?_; rintro e w1 ⟨rfl, hb⟩; have A1 := Lib.hid (A.out.below hb); clear hb)
  go_loopw [8, 9, 10] (fun v8 s i wr => ∃ k : Nat, k ≤ n ∧ i = .int .i64 k ∧ Hid (s = sv (cs (TL true R L k))) ∧ Hid (L1 w v1 v2 v8 n1 n2 k xs ys R L wr)) (fun _ _ i _ => n - (intOf i).toNat)
  case atStart => exact ⟨0, by omega, rfl, Lib.hid rfl, Lib.hid ⟨A.out.t, A1.out.b, HS1.out, HS2.out, World.ownsRow_nil _ _ _ _⟩⟩
  case round =>
    obtain ⟨k, hk, rfl, HTX, HL⟩ := hrel
    have htx := HTX.out
    subst htx
    have hS : ∃ S : ByteArray, sv (cs (TL true R L k)) = .string S ∧ S.size = (TL true R L k).length := ⟨_, rfl, by rw [ba_size, cs_len]⟩
    obtain ⟨S, hS, hz⟩ := hS
    have hlen := TL_len true R L k
    by_cases hkn : k < n
    · have u1 : (k : Int) < (n1 : Int) := by omega
      have u2 : (k : Int) < (n2 : Int) := by omega
      have u0 : (0 : Int) ≤ (k : Int) := by omega
      obtain ⟨a1', c1', e1, _, _, d1⟩ := HL.out.s1
      obtain ⟨a2', c2', e2, _, _, d2⟩ := HL.out.s2
      rw [HV1.out] at e1
      rw [HV2.out] at e2
      rcases d1 with ⟨h, _⟩ | ⟨b1, o1, rfl, l1, I1⟩
      · omega
      rcases d2 with ⟨h, _⟩ | ⟨b2, o2, rfl, l2, I2⟩
      · omega
      injection e1 with e1 _ e1c
      injection e2 with e2 _ e2c
      subst e1 e2 e1c e2c
      have x0 := I1 k (by omega)
      have y0 := I2 k (by omega)
      have HOK := Lib.hid (fun W => HO.out k W)
      unfold prV at HOK
      have HPK := HP.out k
      obtain ⟨x, hx⟩ : ∃ x, xs k = x := ⟨_, rfl⟩
      obtain ⟨y, hy⟩ : ∃ x, ys k = x := ⟨_, rfl⟩
      rw [hx] at x0 HOK
      rw [hy] at y0 HOK
      have HPR := Lib.hid (prC_succ R L k)
      have HTS := Lib.hid (rfl : TL true R L (k + 1) = TL true R L k ++ piece true R L k)
      have LP := put_len (true && decide (k = 0)) (R k) (L k)
      have HPUT := Lib.hid (fun W h => Put_any (R k) (L k) (true && decide (k = 0)) W h)
      rw [HPK, if_pos rfl, if_pos rfl, putL_cs] at HPUT
      have HCO := Lib.hid (fun W => lcode_any (putB (true && decide (k = 0)) (R k) (L k)) 20 W (by omega) LP.2 (by decide) (put_ones _ _ _))
      have hU : ∃ U : ByteArray, sv (cs (putB (true && decide (k = 0)) (R k) (L k))) = .string U ∧ U.size = (putB (true && decide (k = 0)) (R k) (L k)).length := ⟨_, rfl, by rw [ba_size, cs_len]⟩
      obtain ⟨U, hU, hzU⟩ := hU
      rw [hU] at HPUT HCO
      unfold prV at HPUT
      have HNX : Hid (Value.string (S ++ U) = sv (cs (TL true R L (k + 1)))) := Lib.hid (by rw [HTS.out]; exact sv_app _ _ S U hS hU)
      obtain ⟨r, hr⟩ : ∃ r, R k = r := ⟨_, rfl⟩
      obtain ⟨l, hl⟩ : ∃ r, L k = r := ⟨_, rfl⟩
      rw [hr, hl] at HOK HPUT HPR
      have tz : (S ++ U).size = S.size + U.size := ByteArray.size_append
      obtain ⟨zs, hzs⟩ : ∃ m, S.size = m := ⟨_, rfl⟩
      obtain ⟨zu, hzu⟩ : ∃ m, U.size = m := ⟨_, rfl⟩
      rw [hzs, hzu] at tz
      have hz2 : zs ≤ 800 := by omega
      have hzU2 : zu ≤ 20 := by omega
      obtain ⟨fb, hfb⟩ : ∃ b : Bool, decide (k = 0) = b := ⟨_, rfl⟩
      have hk0 : ((k : Int) == 0) = fb := by rw [← hfb]; by_cases h : k = 0 <;> simp [h]
      rw [hfb] at HPUT
      rw [hS]
      clear I1 I2 hx hy hS hU hzU hz LP HPK hr hl hlen hk hfb
      rw [Bool.true_and] at HPUT
      go_upto_region 9 with fail
      go_cut [11] (fun u wx => ∃ B, u = .pointer (some ⟨B, 0, none⟩) ∧ Hid (Below wr.heap.size wr wx ∧ wx.cell? ⟨B, 0, none⟩ = some (.int .i64 r) ∧ wx.cell? ⟨B, 1, none⟩ = some (.int .i64 l)))
      case first =>
        have W0 := Lib.hid (show Below wr.heap.size wr wr.drew from (Below.refl _ _).drew)
        have AL := Lib.hid (fun (V : World) => heap_alloc_new V (.cells #[.int .i64 0, .int .i64 0] 26))
        have KC := Lib.hid (fun (V : World) (h : Below wr.heap.size wr V) => And.intro ((h.cell (World.block_lt_of_cell? _ _ x0)).trans x0) ((h.cell (World.block_lt_of_cell? _ _ y0)).trans y0))
        go_region_held3 (fun w' => w'.cell? ⟨b1, o1 + k, none⟩ = some (.int .i64 x) ∧ w'.cell? ⟨b2, o2 + k, none⟩ = some (.int .i64 y))
          (first | exact KC.out _ KB1.out | exact KC.out _ ((KB1.out.setCell (p := ⟨wr.heap.size, 0, none⟩) (Nat.le_refl _) _).setCell (p := ⟨wr.heap.size, 1, none⟩) (Nat.le_refl _) _) | exact KC.out _ (KB1.out.alloc KB1.out.size _) | exact KC.out _ W0.out | exact KC.out _ (W0.out.alloc W0.out.size _))
          (first
            | (go_at_call 14; refine (HOK.out _).mono ?_; rintro e V1 ⟨rfl, hb⟩; have KB1 := Lib.hid (chain W0.out hb); clear hb)
            | (go_at_call 14; refine (HOK.out _).mono ?_; rintro e V1 ⟨rfl, hb⟩; have KB1 := Lib.hid (chain (W0.out.alloc (Nat.le_refl _) _) hb); have q : V1.heap[wr.heap.size]? = some (.cells #[.int .i64 0, .int .i64 0] 26 (0, 0)) := (hb.block _ (Array.getElem?_eq_some_iff.1 (AL.out wr.drew)).1).trans (AL.out wr.drew); have q0 := cell_row q (i := 0) rfl; have q1 := cell_row q (i := 1) rfl; have f0 := frozen_of_row q 0; have f1 := frozen_of_row q 1; have QQ := Lib.hid q; clear hb q))
        · go_wp2_with fail
          go_meet
          exact ⟨V1.heap.size, rfl, Lib.hid ⟨KB1.out.alloc KB1.out.size _, cell_row (heap_alloc_new V1 _) (i := 0) rfl, cell_row (heap_alloc_new V1 _) (i := 1) rfl⟩⟩
        · have q2 := ob_set (ob_set QQ.out 0 (.int .i64 r)) 1 (.int .i64 l)
          go_wp2_with fail
          go_meet
          exact ⟨wr.heap.size, rfl, Lib.hid ⟨(KB1.out.setCell (p := ⟨wr.heap.size, 0, none⟩) (Nat.le_refl _) _).setCell (p := ⟨wr.heap.size, 1, none⟩) (Nat.le_refl _) _, cell_row q2 (i := 0) rfl, cell_row q2 (i := 1) rfl⟩⟩
      case rest =>
        obtain ⟨B, rfl, HC⟩ := hcut
        have HLC := Lib.hid (HL.out.below HC.out.1)
        have k0 := HC.out.2.1
        have k1 := HC.out.2.2
        go_wp2_with (first
          | (go_at_call 15; refine (HPUT.out _ HLC.out.t).mono ?_; rintro e w3 ⟨rfl, hb⟩; have HLD := Lib.hid (HLC.out.below hb); have j0 := (hb.cell (World.block_lt_of_cell? _ _ k0)).trans k0; have j1 := (hb.cell (World.block_lt_of_cell? _ _ k1)).trans k1; clear hb k0 k1; have z3 := HLD.out.b.size)
          | (go_at_call 17; refine (HCO.out _).mono ?_; rintro e w4 ⟨rfl, rfl⟩)
          | (at_builtin; refine wpList_append_own _ rfl (.tmp 68) (.tmp 70) 39 rfl w.heap.size 26 i0 (.agg #[.int .i64 0, .int .i64 0]) 2 16 Tryd.underlying39 hi hz0 hz1 hz2i rfl (by decide) _ _ _ rfl (HLD.out.o.alloc _) ⟨w3.heap.size, 0, none⟩ 1 1 [.int .i64 r, .int .i64 l] rfl rfl (World.news_of_block (cs := #[.int .i64 r, .int .i64 l]) (t := 26) (fr := (0, 0)) (heap_alloc_new w3 _)) (by simp [Value.oneCell']) (by unfold maxLen; omega) (by omega) (by simp; omega) ?_; intro v5 w5 own5 gr5 _; have O5 := Lib.hid own5; have G5' := Lib.hid gr5; clear own5 gr5))
        have HL5 := Lib.hid (L1.push HLD.out (HL5k := k) HPR.out O5.out G5'.out)
        go_roundw
        case rel => exact ⟨k + 1, by omega, by go_num, HNX, HL5⟩
        case measure => simp [intOf]; omega
    · obtain rfl : k = n := by omega
      have u12 : (¬ (k : Int) < (n1 : Int)) ∨ ((k : Int) < (n1 : Int) ∧ ¬ (k : Int) < (n2 : Int)) := by omega
      have HEN := Lib.hid (show k = n1 ∨ k = n2 from hnC)
      have HTE := Lib.hid (rfl : TL true R L k ++ [true, false] = TL true R L k ++ [true, false])
      have hTT : ∃ T : ByteArray, sv (cs (TL true R L k ++ [true, false])) = .string T ∧ T.size = (TL true R L k).length + 2 := ⟨_, rfl, by rw [ba_size, cs_len]; simp⟩
      obtain ⟨T, hTT, hzT⟩ := hTT
      have HAPP : Hid (Value.string (S ++ ⟨#[49, 48]⟩) = .string T) := Lib.hid ((sv_app _ _ S _ hS (show sv (cs [true, false]) = .string ⟨#[49, 48]⟩ from rfl)).trans hTT)
      have HBY := Lib.hid (fun W => lbytes_any (TL true R L k ++ [true, false]) (.slice none 0 0) 0 (fun _ => 0) W (by simp) (by simp; omega) (by decide) ⟨none, 0, rfl, Nat.le_refl _, Nat.zero_le _, .inl ⟨rfl, fun _ => rfl⟩⟩)
      unfold BytesTo at HBY
      rw [hTT] at HBY
      have HGP := Lib.hid (fun i (hi : i < k) => get_piece (first := true) (R := R) (L := L) hi (HP.out i) (fun _ => 0) [true, false] rfl)
      have HGF := Lib.hid (get_fin (first := true) (R := R) (L := L) (n := k) (fun _ => 0) [true, false] rfl)
      have hTL2 : (TL true R L k ++ [true, false]).length = (TL true R L k).length + 2 := by simp
      rw [hTL2] at HBY HGP HGF
      obtain ⟨F2, htrue⟩ : ∃ f, byV (jnF (TL true R L k ++ [true, false]) (fun _ => 0)) ((TL true R L k).length + 2 + 0) = f := ⟨_, rfl⟩
      obtain ⟨NN, hNN⟩ : ∃ f, ((TL true R L k).length + 2 + 0 + 7) / 8 = f := ⟨_, rfl⟩
      have hFB : ∀ j, 0 ≤ F2 j ∧ F2 j ≤ 255 := fun j => by rw [← htrue]; exact byV_bd _ _ j
      rw [htrue, hNN] at HBY HGP HGF
      have hNN2 : NN ≤ 200 := by omega
      rw [← Value.string.inj HAPP.out] at HBY
      obtain ⟨zs, hzs⟩ : ∃ m, (TL true R L k).length = m := ⟨_, rfl⟩
      have HZS := Lib.hid hzs
      rw [hzs] at hz hzT hlen
      have hzs8 : zs ≤ 800 := by omega
      have tz : (S ++ ⟨#[49, 48]⟩ : ByteArray).size = zs + 2 := by rw [ByteArray.size_append, hz]; rfl
      have HTS := Lib.hid (fun i => show (TL true R L (i + 1)).length = (TL true R L i).length + (piece true R L i).length by simp [TL])
      have HPL := Lib.hid (fun i => put_len (true && decide (i = 0)) (R i) (L i))
      rw [hS]
      clear hTT hTL2 htrue hNN hS hk hkn hnA hnB hzs hnC
      by_cases hk0 : k = 0
      · subst hk0
        have V8 := HL.out.o
        rcases V8.2 with ⟨hv8, _⟩ | ⟨g8, cap8, cur8, hv8, _⟩
        all_goals
          subst hv8
          have b8 := Lib.hid HL.out.b
          clear V8
          rcases u12 with u1 | ⟨u1, u2⟩
          all_goals
            go_wp2_with fail
            go_ret
            exact ⟨rfl, b8.out⟩
      · have hk1 : ((k : Int) == 0) = false := by rw [beq_eq_false_iff_ne]; omega
        have hk2 : 0 < k := by omega
        obtain ⟨g8, C8, rfl, _, _⟩ := HL.out.o.form hk2
        obtain ⟨A8, hA8⟩ : ∃ a : Option Addr, some (⟨g8, 0, none⟩ : Addr) = a := ⟨_, rfl⟩
        rw [hA8] at HL ⊢
        have HA8 : Hid (0 < k → ∃ g, A8 = some ⟨g, 0, none⟩) := Lib.hid fun _ => ⟨g8, hA8.symm⟩
        clear hA8 hk0 hk2
        rcases u12 with u1 | ⟨u1, u2⟩
        · skip
          go_wp2_with (go_at_call 18; refine (HBY.out _).mono ?_; rintro e w2 ⟨gb, rfl, hA, hg, _, hb⟩; have LB := Lib.hid (L2.mk (HL.out.t.below hb) (chain HL.out.b hb) hA hg (own_kept HL.out.o hb)); clear hA hg hb)
          go_loopw [15, 16] (fun at_ i wr => ∃ j : Nat, j ≤ k ∧ i = .int .i64 j ∧ Hid (at_ = .int .i64 ((TL true R L j).length : Nat)) ∧ Hid (L2 w (.slice A8 k C8) k gb NN F2 R L wr)) (fun _ i _ => k - (intOf i).toNat)
          case atStart => exact ⟨0, by omega, rfl, Lib.hid rfl, LB⟩
          case round =>
            obtain ⟨j, hj, rfl, HAT, HLB⟩ := hrel
            have hat := HAT.out
            subst hat
            have hpj := TL_len true R L j
            by_cases hjk : j < k
            · have u5 : (j : Int) < (k : Int) := by omega
              have u6 : (0 : Int) ≤ (j : Int) := by omega
              obtain ⟨g8, rfl⟩ := HA8.out (by omega)
              have GC := prC_get R L j k hjk
              have e0 := HLB.out.o.cellAt (j * 2) (by omega)
              have e1 := HLB.out.o.cellAt (j * 2 + 1) (by omega)
              rw [GC.1] at e0
              rw [GC.2] at e1
              have E0 := Lib.hid e0
              have E1 := Lib.hid e1
              have HPJ := HPL.out j
              have HPJ2 : 2 ≤ (piece true R L j).length ∧ (piece true R L j).length ≤ 20 := HPJ
              have HTJ := HTS.out j
              have HGJ := HGP.out j hjk
              obtain ⟨p, hp⟩ : ∃ p, (TL true R L j).length = p := ⟨_, rfl⟩
              obtain ⟨m, hm⟩ : ∃ p, (piece true R L j).length = p := ⟨_, rfl⟩
              rw [hp, hm] at HGJ HTJ
              rw [hm] at HPJ2
              rw [hp] at hpj ⊢
              have HG := Lib.hid (fun W (h : L2 w (.slice (some ⟨g8, 0, none⟩) k C8) k gb NN F2 R L W) => Get_any (.slice (some ⟨gb, 0, none⟩) NN NN) NN F2 (p : Int) (true && decide (j = 0)) W (by omega) (Arr.slB h.a h.g (by unfold maxLen; omega)) (fun i _ => hFB i) h.t)
              rw [HGJ] at HG
              unfold G5.val prV at HG
              have m1 : ¬ (m : Int) < 1 := by omega
              have m2 : (m : Int) ≤ 20 := by omega
              have p1 : (p : Int) ≤ 800 := by omega
              have HTJ2 := Lib.hid HTJ
              obtain ⟨r, hr⟩ : ∃ r, R j = r := ⟨_, rfl⟩
              obtain ⟨l, hl⟩ : ∃ r, L j = r := ⟨_, rfl⟩
              rw [hr, hl] at HG
              rw [hr] at E0
              rw [hl] at E1
              have AP := Lib.hid (fun V => heap_alloc_new V (.cells #[.int .i64 r, .int .i64 l] 26))
              have HJK := Lib.hid hjk
              clear GC e0 e1 HPJ HPJ2 HTJ HGJ hp hm hr hl hj hjk
              obtain ⟨fb, hfb⟩ : ∃ b : Bool, decide (j = 0) = b := ⟨_, rfl⟩
              have hj0 : ((j : Int) == 0) = fb := by rw [← hfb]; by_cases h : j = 0 <;> simp [h]
              rw [hfb, Bool.true_and] at HG
              clear hfb
              go_wp2_with (go_at_call 11; refine (HG.out _ HLB.out).mono ?_; rintro e w3 ⟨rfl, hb⟩; have LC := Lib.hid ((HLB.out.below hb).below ((Below.refl _ _).alloc (Nat.le_refl _) (.cells #[.int .i64 r, .int .i64 l] 26))); have e0 := (hb.cell (World.block_lt_of_cell? _ _ E0.out)).trans E0.out; have e1 := (hb.cell (World.block_lt_of_cell? _ _ E1.out)).trans E1.out; have lz := World.block_lt_of_cell? _ _ e0; clear hb)
              go_quiet (fail)
              go_wp2_with fail
              go_roundw
              case rel => exact ⟨j + 1, HJK.out, by go_num, Lib.hid (by rw [HTJ2.out]; go_num), Lib.hid (LC.out.below (below_drewN (Below.refl _ _) _))⟩
              case measure => have := HJK.out; simp [intOf]; omega
            · obtain rfl : j = k := by omega
              have u5 : ¬ (j : Int) < (j : Int) := by omega
              have HG := Lib.hid (fun W (h : L2 w (.slice A8 j C8) j gb NN F2 R L W) => Get_any (.slice (some ⟨gb, 0, none⟩) NN NN) NN F2 ((TL true R L j).length : Nat) false W (by omega) (Arr.slB h.a h.g (by unfold maxLen; omega)) (fun i _ => hFB i) h.t)
              rw [HGF.out, HZS.out] at HG
              unfold G5.val prV at HG
              rw [HZS.out]
              have p1 : (zs : Int) ≤ 800 := by omega
              go_wp2_with (go_at_call 11; refine (HG.out _ HLB.out).mono ?_; rintro e w3 ⟨rfl, hb⟩; have LC := Lib.hid (HLB.out.below hb); clear hb)
              go_ret
              exact ⟨rfl, LC.out.b.alloc LC.out.b.size _⟩
        · skip
          go_wp2_with (go_at_call 18; refine (HBY.out _).mono ?_; rintro e w2 ⟨gb, rfl, hA, hg, _, hb⟩; have LB := Lib.hid (L2.mk (HL.out.t.below hb) (chain HL.out.b hb) hA hg (own_kept HL.out.o hb)); clear hA hg hb)
          go_loopw [15, 16] (fun at_ i wr => ∃ j : Nat, j ≤ k ∧ i = .int .i64 j ∧ Hid (at_ = .int .i64 ((TL true R L j).length : Nat)) ∧ Hid (L2 w (.slice A8 k C8) k gb NN F2 R L wr)) (fun _ i _ => k - (intOf i).toNat)
          case atStart => exact ⟨0, by omega, rfl, Lib.hid rfl, LB⟩
          case round =>
            obtain ⟨j, hj, rfl, HAT, HLB⟩ := hrel
            have hat := HAT.out
            subst hat
            have hpj := TL_len true R L j
            by_cases hjk : j < k
            · have u5 : (j : Int) < (k : Int) := by omega
              have u6 : (0 : Int) ≤ (j : Int) := by omega
              obtain ⟨g8, rfl⟩ := HA8.out (by omega)
              have GC := prC_get R L j k hjk
              have e0 := HLB.out.o.cellAt (j * 2) (by omega)
              have e1 := HLB.out.o.cellAt (j * 2 + 1) (by omega)
              rw [GC.1] at e0
              rw [GC.2] at e1
              have E0 := Lib.hid e0
              have E1 := Lib.hid e1
              have HPJ := HPL.out j
              have HPJ2 : 2 ≤ (piece true R L j).length ∧ (piece true R L j).length ≤ 20 := HPJ
              have HTJ := HTS.out j
              have HGJ := HGP.out j hjk
              obtain ⟨p, hp⟩ : ∃ p, (TL true R L j).length = p := ⟨_, rfl⟩
              obtain ⟨m, hm⟩ : ∃ p, (piece true R L j).length = p := ⟨_, rfl⟩
              rw [hp, hm] at HGJ HTJ
              rw [hm] at HPJ2
              rw [hp] at hpj ⊢
              have HG := Lib.hid (fun W (h : L2 w (.slice (some ⟨g8, 0, none⟩) k C8) k gb NN F2 R L W) => Get_any (.slice (some ⟨gb, 0, none⟩) NN NN) NN F2 (p : Int) (true && decide (j = 0)) W (by omega) (Arr.slB h.a h.g (by unfold maxLen; omega)) (fun i _ => hFB i) h.t)
              rw [HGJ] at HG
              unfold G5.val prV at HG
              have m1 : ¬ (m : Int) < 1 := by omega
              have m2 : (m : Int) ≤ 20 := by omega
              have p1 : (p : Int) ≤ 800 := by omega
              have HTJ2 := Lib.hid HTJ
              obtain ⟨r, hr⟩ : ∃ r, R j = r := ⟨_, rfl⟩
              obtain ⟨l, hl⟩ : ∃ r, L j = r := ⟨_, rfl⟩
              rw [hr, hl] at HG
              rw [hr] at E0
              rw [hl] at E1
              have AP := Lib.hid (fun V => heap_alloc_new V (.cells #[.int .i64 r, .int .i64 l] 26))
              have HJK := Lib.hid hjk
              clear GC e0 e1 HPJ HPJ2 HTJ HGJ hp hm hr hl hj hjk
              obtain ⟨fb, hfb⟩ : ∃ b : Bool, decide (j = 0) = b := ⟨_, rfl⟩
              have hj0 : ((j : Int) == 0) = fb := by rw [← hfb]; by_cases h : j = 0 <;> simp [h]
              rw [hfb, Bool.true_and] at HG
              clear hfb
              go_wp2_with (go_at_call 11; refine (HG.out _ HLB.out).mono ?_; rintro e w3 ⟨rfl, hb⟩; have LC := Lib.hid ((HLB.out.below hb).below ((Below.refl _ _).alloc (Nat.le_refl _) (.cells #[.int .i64 r, .int .i64 l] 26))); have e0 := (hb.cell (World.block_lt_of_cell? _ _ E0.out)).trans E0.out; have e1 := (hb.cell (World.block_lt_of_cell? _ _ E1.out)).trans E1.out; have lz := World.block_lt_of_cell? _ _ e0; clear hb)
              go_quiet (fail)
              go_wp2_with fail
              go_roundw
              case rel => exact ⟨j + 1, HJK.out, by go_num, Lib.hid (by rw [HTJ2.out]; go_num), Lib.hid (LC.out.below (below_drewN (Below.refl _ _) _))⟩
              case measure => have := HJK.out; simp [intOf]; omega
            · obtain rfl : j = k := by omega
              have u5 : ¬ (j : Int) < (j : Int) := by omega
              have HG := Lib.hid (fun W (h : L2 w (.slice A8 j C8) j gb NN F2 R L W) => Get_any (.slice (some ⟨gb, 0, none⟩) NN NN) NN F2 ((TL true R L j).length : Nat) false W (by omega) (Arr.slB h.a h.g (by unfold maxLen; omega)) (fun i _ => hFB i) h.t)
              rw [HGF.out, HZS.out] at HG
              unfold G5.val prV at HG
              rw [HZS.out]
              have p1 : (zs : Int) ≤ 800 := by omega
              go_wp2_with (go_at_call 11; refine (HG.out _ HLB.out).mono ?_; rintro e w3 ⟨rfl, hb⟩; have LC := Lib.hid (HLB.out.below hb); clear hb)
              go_ret
              exact ⟨rfl, LC.out.b.alloc LC.out.b.size _⟩
theorem CoeffList_false (v1 v2 : Value) (n1 n2 : Nat) (xs ys : Nat → Int) (w : World) (h1 : Sl .i64 w v1 n1 xs) (h2 : Sl .i64 w v2 n2 ys) (hn1 : n1 ≤ 40) (hT : Tabs w) :
    Calls Tryd.prog 5 #[v1, v2, .bool false] w fun e w' => e = .returned (.bool true) ∧ Below w.heap.size w w' := by
  obtain ⟨i0, hi, hz0, hz1, hz2i⟩ := info_parts info_pair
  obtain ⟨R, hR⟩ : ∃ R : Nat → Int, R = fun i => xs i % 64 := ⟨_, rfl⟩
  obtain ⟨L, hL⟩ : ∃ R : Nat → Int, R = fun i => ofL (ys i) := ⟨_, rfl⟩
  have HP := Lib.hid (fun i => show pairB (R i) (L i) = true by rw [hR, hL]; exact of_pair _ _)
  have HO := Lib.hid (fun i W => show Calls Tryd.prog 14 #[.int .i64 (xs i), .int .i64 (ys i)] W fun e w' => e = .returned (prV (R i) (L i)) ∧ Below W.heap.size W w' by rw [hR, hL]; exact of_any _ _ W)
  have HA := Lib.hid (fun W h => awake_any W h)
  obtain ⟨n, hn⟩ : ∃ n, min n1 n2 = n := ⟨_, rfl⟩
  have hn40 : n ≤ 40 := by omega
  have hnA : n ≤ n1 := by omega
  have hnB : n ≤ n2 := by omega
  have hnC : n = n1 ∨ n = n2 := by omega
  clear hn
  have A := Lib.hid (AW.new hT)
  have HS1 := Lib.hid h1
  have HS2 := Lib.hid h2
  clear hR hL hT
  obtain ⟨a1, c1, hv1, _, _, _⟩ := h1
  obtain ⟨a2, c2, hv2, _, _, _⟩ := h2
  have HV1 := Lib.hid hv1
  have HV2 := Lib.hid hv2
  have t40 : ¬ (n1 : Int) > 40 := by omega
  rw [hv1, hv2]
  clear hv1 hv2
  go_enter Tryd.func5, Tryd.ntmps5
  go_wp2_with (go_at_call 9; refine (HA.out _ A.out.t).mono ?_; rintro e w1 ⟨rfl, hb⟩; have A1 := Lib.hid (A.out.below hb); clear hb)
  go_loopw [8, 9, 10] (fun v8 s i wr => ∃ k : Nat, k ≤ n ∧ i = .int .i64 k ∧ Hid (s = sv (cs (TL false R L k))) ∧ Hid (L1 w v1 v2 v8 n1 n2 k xs ys R L wr)) (fun _ _ i _ => n - (intOf i).toNat)
  case atStart => exact ⟨0, by omega, rfl, Lib.hid rfl, Lib.hid ⟨A.out.t, A1.out.b, HS1.out, HS2.out, World.ownsRow_nil _ _ _ _⟩⟩
  case round =>
    obtain ⟨k, hk, rfl, HTX, HL⟩ := hrel
    have htx := HTX.out
    subst htx
    have hS : ∃ S : ByteArray, sv (cs (TL false R L k)) = .string S ∧ S.size = (TL false R L k).length := ⟨_, rfl, by rw [ba_size, cs_len]⟩
    obtain ⟨S, hS, hz⟩ := hS
    have hlen := TL_len false R L k
    by_cases hkn : k < n
    · have u1 : (k : Int) < (n1 : Int) := by omega
      have u2 : (k : Int) < (n2 : Int) := by omega
      have u0 : (0 : Int) ≤ (k : Int) := by omega
      obtain ⟨a1', c1', e1, _, _, d1⟩ := HL.out.s1
      obtain ⟨a2', c2', e2, _, _, d2⟩ := HL.out.s2
      rw [HV1.out] at e1
      rw [HV2.out] at e2
      rcases d1 with ⟨h, _⟩ | ⟨b1, o1, rfl, l1, I1⟩
      · omega
      rcases d2 with ⟨h, _⟩ | ⟨b2, o2, rfl, l2, I2⟩
      · omega
      injection e1 with e1 _ e1c
      injection e2 with e2 _ e2c
      subst e1 e2 e1c e2c
      have x0 := I1 k (by omega)
      have y0 := I2 k (by omega)
      have HOK := Lib.hid (fun W => HO.out k W)
      unfold prV at HOK
      have HPK := HP.out k
      obtain ⟨x, hx⟩ : ∃ x, xs k = x := ⟨_, rfl⟩
      obtain ⟨y, hy⟩ : ∃ x, ys k = x := ⟨_, rfl⟩
      rw [hx] at x0 HOK
      rw [hy] at y0 HOK
      have HPR := Lib.hid (prC_succ R L k)
      have HTS := Lib.hid (rfl : TL false R L (k + 1) = TL false R L k ++ piece false R L k)
      have LP := put_len (false && decide (k = 0)) (R k) (L k)
      have HPUT := Lib.hid (fun W h => Put_any (R k) (L k) (false && decide (k = 0)) W h)
      rw [HPK, if_pos rfl, if_pos rfl, putL_cs] at HPUT
      have HCO := Lib.hid (fun W => lcode_any (putB (false && decide (k = 0)) (R k) (L k)) 20 W (by omega) LP.2 (by decide) (put_ones _ _ _))
      have hU : ∃ U : ByteArray, sv (cs (putB (false && decide (k = 0)) (R k) (L k))) = .string U ∧ U.size = (putB (false && decide (k = 0)) (R k) (L k)).length := ⟨_, rfl, by rw [ba_size, cs_len]⟩
      obtain ⟨U, hU, hzU⟩ := hU
      rw [hU] at HPUT HCO
      unfold prV at HPUT
      have HNX : Hid (Value.string (S ++ U) = sv (cs (TL false R L (k + 1)))) := Lib.hid (by rw [HTS.out]; exact sv_app _ _ S U hS hU)
      obtain ⟨r, hr⟩ : ∃ r, R k = r := ⟨_, rfl⟩
      obtain ⟨l, hl⟩ : ∃ r, L k = r := ⟨_, rfl⟩
      rw [hr, hl] at HOK HPUT HPR
      have tz : (S ++ U).size = S.size + U.size := ByteArray.size_append
      obtain ⟨zs, hzs⟩ : ∃ m, S.size = m := ⟨_, rfl⟩
      obtain ⟨zu, hzu⟩ : ∃ m, U.size = m := ⟨_, rfl⟩
      rw [hzs, hzu] at tz
      have hz2 : zs ≤ 800 := by omega
      have hzU2 : zu ≤ 20 := by omega
      obtain ⟨fb, hfb⟩ : ∃ b : Bool, decide (k = 0) = b := ⟨_, rfl⟩
      have hk0 : ((k : Int) == 0) = fb := by rw [← hfb]; by_cases h : k = 0 <;> simp [h]
      rw [hfb] at HPUT
      rw [hS]
      clear I1 I2 hx hy hS hU hzU hz LP HPK hr hl hlen hk hfb
      rw [Bool.false_and] at HPUT
      go_upto_region 9 with fail
      go_cut [11] (fun u wx => ∃ B, u = .pointer (some ⟨B, 0, none⟩) ∧ Hid (Below wr.heap.size wr wx ∧ wx.cell? ⟨B, 0, none⟩ = some (.int .i64 r) ∧ wx.cell? ⟨B, 1, none⟩ = some (.int .i64 l)))
      case first =>
        have W0 := Lib.hid (show Below wr.heap.size wr wr.drew from (Below.refl _ _).drew)
        have AL := Lib.hid (fun (V : World) => heap_alloc_new V (.cells #[.int .i64 0, .int .i64 0] 26))
        have KC := Lib.hid (fun (V : World) (h : Below wr.heap.size wr V) => And.intro ((h.cell (World.block_lt_of_cell? _ _ x0)).trans x0) ((h.cell (World.block_lt_of_cell? _ _ y0)).trans y0))
        go_region_held3 (fun w' => w'.cell? ⟨b1, o1 + k, none⟩ = some (.int .i64 x) ∧ w'.cell? ⟨b2, o2 + k, none⟩ = some (.int .i64 y))
          (first | exact KC.out _ KB1.out | exact KC.out _ ((KB1.out.setCell (p := ⟨wr.heap.size, 0, none⟩) (Nat.le_refl _) _).setCell (p := ⟨wr.heap.size, 1, none⟩) (Nat.le_refl _) _) | exact KC.out _ (KB1.out.alloc KB1.out.size _) | exact KC.out _ W0.out | exact KC.out _ (W0.out.alloc W0.out.size _))
          (first
            | (go_at_call 14; refine (HOK.out _).mono ?_; rintro e V1 ⟨rfl, hb⟩; have KB1 := Lib.hid (chain W0.out hb); clear hb)
            | (go_at_call 14; refine (HOK.out _).mono ?_; rintro e V1 ⟨rfl, hb⟩; have KB1 := Lib.hid (chain (W0.out.alloc (Nat.le_refl _) _) hb); have q : V1.heap[wr.heap.size]? = some (.cells #[.int .i64 0, .int .i64 0] 26 (0, 0)) := (hb.block _ (Array.getElem?_eq_some_iff.1 (AL.out wr.drew)).1).trans (AL.out wr.drew); have q0 := cell_row q (i := 0) rfl; have q1 := cell_row q (i := 1) rfl; have f0 := frozen_of_row q 0; have f1 := frozen_of_row q 1; have QQ := Lib.hid q; clear hb q))
        · go_wp2_with fail
          go_meet
          exact ⟨V1.heap.size, rfl, Lib.hid ⟨KB1.out.alloc KB1.out.size _, cell_row (heap_alloc_new V1 _) (i := 0) rfl, cell_row (heap_alloc_new V1 _) (i := 1) rfl⟩⟩
        · have q2 := ob_set (ob_set QQ.out 0 (.int .i64 r)) 1 (.int .i64 l)
          go_wp2_with fail
          go_meet
          exact ⟨wr.heap.size, rfl, Lib.hid ⟨(KB1.out.setCell (p := ⟨wr.heap.size, 0, none⟩) (Nat.le_refl _) _).setCell (p := ⟨wr.heap.size, 1, none⟩) (Nat.le_refl _) _, cell_row q2 (i := 0) rfl, cell_row q2 (i := 1) rfl⟩⟩
      case rest =>
        obtain ⟨B, rfl, HC⟩ := hcut
        have HLC := Lib.hid (HL.out.below HC.out.1)
        have k0 := HC.out.2.1
        have k1 := HC.out.2.2
        go_wp2_with (first
          | (go_at_call 15; refine (HPUT.out _ HLC.out.t).mono ?_; rintro e w3 ⟨rfl, hb⟩; have HLD := Lib.hid (HLC.out.below hb); have j0 := (hb.cell (World.block_lt_of_cell? _ _ k0)).trans k0; have j1 := (hb.cell (World.block_lt_of_cell? _ _ k1)).trans k1; clear hb k0 k1; have z3 := HLD.out.b.size)
          | (go_at_call 17; refine (HCO.out _).mono ?_; rintro e w4 ⟨rfl, rfl⟩)
          | (at_builtin; refine wpList_append_own _ rfl (.tmp 68) (.tmp 70) 39 rfl w.heap.size 26 i0 (.agg #[.int .i64 0, .int .i64 0]) 2 16 Tryd.underlying39 hi hz0 hz1 hz2i rfl (by decide) _ _ _ rfl (HLD.out.o.alloc _) ⟨w3.heap.size, 0, none⟩ 1 1 [.int .i64 r, .int .i64 l] rfl rfl (World.news_of_block (cs := #[.int .i64 r, .int .i64 l]) (t := 26) (fr := (0, 0)) (heap_alloc_new w3 _)) (by simp [Value.oneCell']) (by unfold maxLen; omega) (by omega) (by simp; omega) ?_; intro v5 w5 own5 gr5 _; have O5 := Lib.hid own5; have G5' := Lib.hid gr5; clear own5 gr5))
        have HL5 := Lib.hid (L1.push HLD.out (HL5k := k) HPR.out O5.out G5'.out)
        go_roundw
        case rel => exact ⟨k + 1, by omega, by go_num, HNX, HL5⟩
        case measure => simp [intOf]; omega
    · obtain rfl : k = n := by omega
      have u12 : (¬ (k : Int) < (n1 : Int)) ∨ ((k : Int) < (n1 : Int) ∧ ¬ (k : Int) < (n2 : Int)) := by omega
      have HEN := Lib.hid (show k = n1 ∨ k = n2 from hnC)
      have HTE := Lib.hid (rfl : TL false R L k ++ [true, false] = TL false R L k ++ [true, false])
      have hTT : ∃ T : ByteArray, sv (cs (TL false R L k ++ [true, false])) = .string T ∧ T.size = (TL false R L k).length + 2 := ⟨_, rfl, by rw [ba_size, cs_len]; simp⟩
      obtain ⟨T, hTT, hzT⟩ := hTT
      have HAPP : Hid (Value.string (S ++ ⟨#[49, 48]⟩) = .string T) := Lib.hid ((sv_app _ _ S _ hS (show sv (cs [true, false]) = .string ⟨#[49, 48]⟩ from rfl)).trans hTT)
      have HBY := Lib.hid (fun W => lbytes_any (TL false R L k ++ [true, false]) (.slice none 0 0) 0 (fun _ => 0) W (by simp) (by simp; omega) (by decide) ⟨none, 0, rfl, Nat.le_refl _, Nat.zero_le _, .inl ⟨rfl, fun _ => rfl⟩⟩)
      unfold BytesTo at HBY
      rw [hTT] at HBY
      have HGP := Lib.hid (fun i (hi : i < k) => get_piece (first := false) (R := R) (L := L) hi (HP.out i) (fun _ => 0) [true, false] rfl)
      have HGF := Lib.hid (get_fin (first := false) (R := R) (L := L) (n := k) (fun _ => 0) [true, false] rfl)
      have hTL2 : (TL false R L k ++ [true, false]).length = (TL false R L k).length + 2 := by simp
      rw [hTL2] at HBY HGP HGF
      obtain ⟨F2, hfalse⟩ : ∃ f, byV (jnF (TL false R L k ++ [true, false]) (fun _ => 0)) ((TL false R L k).length + 2 + 0) = f := ⟨_, rfl⟩
      obtain ⟨NN, hNN⟩ : ∃ f, ((TL false R L k).length + 2 + 0 + 7) / 8 = f := ⟨_, rfl⟩
      have hFB : ∀ j, 0 ≤ F2 j ∧ F2 j ≤ 255 := fun j => by rw [← hfalse]; exact byV_bd _ _ j
      rw [hfalse, hNN] at HBY HGP HGF
      have hNN2 : NN ≤ 200 := by omega
      rw [← Value.string.inj HAPP.out] at HBY
      obtain ⟨zs, hzs⟩ : ∃ m, (TL false R L k).length = m := ⟨_, rfl⟩
      have HZS := Lib.hid hzs
      rw [hzs] at hz hzT hlen
      have hzs8 : zs ≤ 800 := by omega
      have tz : (S ++ ⟨#[49, 48]⟩ : ByteArray).size = zs + 2 := by rw [ByteArray.size_append, hz]; rfl
      have HTS := Lib.hid (fun i => show (TL false R L (i + 1)).length = (TL false R L i).length + (piece false R L i).length by simp [TL])
      have HPL := Lib.hid (fun i => put_len (false && decide (i = 0)) (R i) (L i))
      rw [hS]
      clear hTT hTL2 hfalse hNN hS hk hkn hnA hnB hzs hnC
      have hv8 : ∃ A8 C8, u8 = .slice A8 k C8 ∧ (0 < k → ∃ g, A8 = some ⟨g, 0, none⟩) := by
        rcases HL.out.o.2 with ⟨h, h2⟩ | ⟨g, cap, cur, h, _⟩
        · exact ⟨none, 0, by rw [h, h2], fun h3 => by omega⟩
        · exact ⟨_, cap, h, fun _ => ⟨g, rfl⟩⟩
      obtain ⟨A8, C8, rfl, hA8⟩ := hv8
      have HA8 := Lib.hid hA8
      clear hA8
      rcases u12 with u1 | ⟨u1, u2⟩
      · skip
        go_wp2_with (go_at_call 18; refine (HBY.out _).mono ?_; rintro e w2 ⟨gb, rfl, hA, hg, _, hb⟩; have LB := Lib.hid (L2.mk (HL.out.t.below hb) (chain HL.out.b hb) hA hg (own_kept HL.out.o hb)); clear hA hg hb)
        go_loopw [15, 16] (fun at_ i wr => ∃ j : Nat, j ≤ k ∧ i = .int .i64 j ∧ Hid (at_ = .int .i64 ((TL false R L j).length : Nat)) ∧ Hid (L2 w (.slice A8 k C8) k gb NN F2 R L wr)) (fun _ i _ => k - (intOf i).toNat)
        case atStart => exact ⟨0, by omega, rfl, Lib.hid rfl, LB⟩
        case round =>
          obtain ⟨j, hj, rfl, HAT, HLB⟩ := hrel
          have hat := HAT.out
          subst hat
          have hpj := TL_len false R L j
          by_cases hjk : j < k
          · have u5 : (j : Int) < (k : Int) := by omega
            have u6 : (0 : Int) ≤ (j : Int) := by omega
            obtain ⟨g8, rfl⟩ := HA8.out (by omega)
            have GC := prC_get R L j k hjk
            have e0 := HLB.out.o.cellAt (j * 2) (by omega)
            have e1 := HLB.out.o.cellAt (j * 2 + 1) (by omega)
            rw [GC.1] at e0
            rw [GC.2] at e1
            have E0 := Lib.hid e0
            have E1 := Lib.hid e1
            have HPJ := HPL.out j
            have HPJ2 : 2 ≤ (piece false R L j).length ∧ (piece false R L j).length ≤ 20 := HPJ
            have HTJ := HTS.out j
            have HGJ := HGP.out j hjk
            obtain ⟨p, hp⟩ : ∃ p, (TL false R L j).length = p := ⟨_, rfl⟩
            obtain ⟨m, hm⟩ : ∃ p, (piece false R L j).length = p := ⟨_, rfl⟩
            rw [hp, hm] at HGJ HTJ
            rw [hm] at HPJ2
            rw [hp] at hpj ⊢
            have HG := Lib.hid (fun W (h : L2 w (.slice (some ⟨g8, 0, none⟩) k C8) k gb NN F2 R L W) => Get_any (.slice (some ⟨gb, 0, none⟩) NN NN) NN F2 (p : Int) (false && decide (j = 0)) W (by omega) (Arr.slB h.a h.g (by unfold maxLen; omega)) (fun i _ => hFB i) h.t)
            rw [HGJ] at HG
            unfold G5.val prV at HG
            have m1 : ¬ (m : Int) < 1 := by omega
            have m2 : (m : Int) ≤ 20 := by omega
            have p1 : (p : Int) ≤ 800 := by omega
            have HTJ2 := Lib.hid HTJ
            obtain ⟨r, hr⟩ : ∃ r, R j = r := ⟨_, rfl⟩
            obtain ⟨l, hl⟩ : ∃ r, L j = r := ⟨_, rfl⟩
            rw [hr, hl] at HG
            rw [hr] at E0
            rw [hl] at E1
            have AP := Lib.hid (fun V => heap_alloc_new V (.cells #[.int .i64 r, .int .i64 l] 26))
            have HJK := Lib.hid hjk
            clear GC e0 e1 HPJ HPJ2 HTJ HGJ hp hm hr hl hj hjk
            obtain ⟨fb, hfb⟩ : ∃ b : Bool, decide (j = 0) = b := ⟨_, rfl⟩
            have hj0 : ((j : Int) == 0) = fb := by rw [← hfb]; by_cases h : j = 0 <;> simp [h]
            rw [hfb, Bool.false_and] at HG
            clear hfb
            go_wp2_with (go_at_call 11; refine (HG.out _ HLB.out).mono ?_; rintro e w3 ⟨rfl, hb⟩; have LC := Lib.hid ((HLB.out.below hb).below ((Below.refl _ _).alloc (Nat.le_refl _) (.cells #[.int .i64 r, .int .i64 l] 26))); have e0 := (hb.cell (World.block_lt_of_cell? _ _ E0.out)).trans E0.out; have e1 := (hb.cell (World.block_lt_of_cell? _ _ E1.out)).trans E1.out; have lz := World.block_lt_of_cell? _ _ e0; clear hb)
            go_quiet (fail)
            go_wp2_with fail
            go_roundw
            case rel => exact ⟨j + 1, HJK.out, by go_num, Lib.hid (by rw [HTJ2.out]; go_num), Lib.hid (LC.out.below (below_drewN (Below.refl _ _) _))⟩
            case measure => have := HJK.out; simp [intOf]; omega
          · obtain rfl : j = k := by omega
            have u5 : ¬ (j : Int) < (j : Int) := by omega
            have HG := Lib.hid (fun W (h : L2 w (.slice A8 j C8) j gb NN F2 R L W) => Get_any (.slice (some ⟨gb, 0, none⟩) NN NN) NN F2 ((TL false R L j).length : Nat) false W (by omega) (Arr.slB h.a h.g (by unfold maxLen; omega)) (fun i _ => hFB i) h.t)
            rw [HGF.out, HZS.out] at HG
            unfold G5.val prV at HG
            rw [HZS.out]
            have p1 : (zs : Int) ≤ 800 := by omega
            go_wp2_with (go_at_call 11; refine (HG.out _ HLB.out).mono ?_; rintro e w3 ⟨rfl, hb⟩; have LC := Lib.hid (HLB.out.below hb); clear hb)
            go_ret
            exact ⟨rfl, LC.out.b.alloc LC.out.b.size _⟩
      · skip
        go_wp2_with (go_at_call 18; refine (HBY.out _).mono ?_; rintro e w2 ⟨gb, rfl, hA, hg, _, hb⟩; have LB := Lib.hid (L2.mk (HL.out.t.below hb) (chain HL.out.b hb) hA hg (own_kept HL.out.o hb)); clear hA hg hb)
        go_loopw [15, 16] (fun at_ i wr => ∃ j : Nat, j ≤ k ∧ i = .int .i64 j ∧ Hid (at_ = .int .i64 ((TL false R L j).length : Nat)) ∧ Hid (L2 w (.slice A8 k C8) k gb NN F2 R L wr)) (fun _ i _ => k - (intOf i).toNat)
        case atStart => exact ⟨0, by omega, rfl, Lib.hid rfl, LB⟩
        case round =>
          obtain ⟨j, hj, rfl, HAT, HLB⟩ := hrel
          have hat := HAT.out
          subst hat
          have hpj := TL_len false R L j
          by_cases hjk : j < k
          · have u5 : (j : Int) < (k : Int) := by omega
            have u6 : (0 : Int) ≤ (j : Int) := by omega
            obtain ⟨g8, rfl⟩ := HA8.out (by omega)
            have GC := prC_get R L j k hjk
            have e0 := HLB.out.o.cellAt (j * 2) (by omega)
            have e1 := HLB.out.o.cellAt (j * 2 + 1) (by omega)
            rw [GC.1] at e0
            rw [GC.2] at e1
            have E0 := Lib.hid e0
            have E1 := Lib.hid e1
            have HPJ := HPL.out j
            have HPJ2 : 2 ≤ (piece false R L j).length ∧ (piece false R L j).length ≤ 20 := HPJ
            have HTJ := HTS.out j
            have HGJ := HGP.out j hjk
            obtain ⟨p, hp⟩ : ∃ p, (TL false R L j).length = p := ⟨_, rfl⟩
            obtain ⟨m, hm⟩ : ∃ p, (piece false R L j).length = p := ⟨_, rfl⟩
            rw [hp, hm] at HGJ HTJ
            rw [hm] at HPJ2
            rw [hp] at hpj ⊢
            have HG := Lib.hid (fun W (h : L2 w (.slice (some ⟨g8, 0, none⟩) k C8) k gb NN F2 R L W) => Get_any (.slice (some ⟨gb, 0, none⟩) NN NN) NN F2 (p : Int) (false && decide (j = 0)) W (by omega) (Arr.slB h.a h.g (by unfold maxLen; omega)) (fun i _ => hFB i) h.t)
            rw [HGJ] at HG
            unfold G5.val prV at HG
            have m1 : ¬ (m : Int) < 1 := by omega
            have m2 : (m : Int) ≤ 20 := by omega
            have p1 : (p : Int) ≤ 800 := by omega
            have HTJ2 := Lib.hid HTJ
            obtain ⟨r, hr⟩ : ∃ r, R j = r := ⟨_, rfl⟩
            obtain ⟨l, hl⟩ : ∃ r, L j = r := ⟨_, rfl⟩
            rw [hr, hl] at HG
            rw [hr] at E0
            rw [hl] at E1
            have AP := Lib.hid (fun V => heap_alloc_new V (.cells #[.int .i64 r, .int .i64 l] 26))
            have HJK := Lib.hid hjk
            clear GC e0 e1 HPJ HPJ2 HTJ HGJ hp hm hr hl hj hjk
            obtain ⟨fb, hfb⟩ : ∃ b : Bool, decide (j = 0) = b := ⟨_, rfl⟩
            have hj0 : ((j : Int) == 0) = fb := by rw [← hfb]; by_cases h : j = 0 <;> simp [h]
            rw [hfb, Bool.false_and] at HG
            clear hfb
            go_wp2_with (go_at_call 11; refine (HG.out _ HLB.out).mono ?_; rintro e w3 ⟨rfl, hb⟩; have LC := Lib.hid ((HLB.out.below hb).below ((Below.refl _ _).alloc (Nat.le_refl _) (.cells #[.int .i64 r, .int .i64 l] 26))); have e0 := (hb.cell (World.block_lt_of_cell? _ _ E0.out)).trans E0.out; have e1 := (hb.cell (World.block_lt_of_cell? _ _ E1.out)).trans E1.out; have lz := World.block_lt_of_cell? _ _ e0; clear hb)
            go_quiet (fail)
            go_wp2_with fail
            go_roundw
            case rel => exact ⟨j + 1, HJK.out, by go_num, Lib.hid (by rw [HTJ2.out]; go_num), Lib.hid (LC.out.below (below_drewN (Below.refl _ _) _))⟩
            case measure => have := HJK.out; simp [intOf]; omega
          · obtain rfl : j = k := by omega
            have u5 : ¬ (j : Int) < (j : Int) := by omega
            have HG := Lib.hid (fun W (h : L2 w (.slice A8 j C8) j gb NN F2 R L W) => Get_any (.slice (some ⟨gb, 0, none⟩) NN NN) NN F2 ((TL false R L j).length : Nat) false W (by omega) (Arr.slB h.a h.g (by unfold maxLen; omega)) (fun i _ => hFB i) h.t)
            rw [HGF.out, HZS.out] at HG
            unfold G5.val prV at HG
            rw [HZS.out]
            have p1 : (zs : Int) ≤ 800 := by omega
            go_wp2_with (go_at_call 11; refine (HG.out _ HLB.out).mono ?_; rintro e w3 ⟨rfl, hb⟩; have LC := Lib.hid (HLB.out.below hb); clear hb)
            go_ret
            exact ⟨rfl, LC.out.b.alloc LC.out.b.size _⟩
theorem CoeffList_any (a1 : Option Addr) (n1 c1 : Nat) (z1 : List Int) (a2 : Option Addr) (n2 c2 : Nat) (z2 : List Int) (first : Bool) (w : World) (h1 : IsRow .i64 w a1 n1 c1 z1) (h2 : IsRow .i64 w a2 n2 c2 z2) (hT : Tabs w) :
    Calls Tryd.prog 5 #[.slice a1 n1 c1, .slice a2 n2 c2, .bool first] w fun e w' => e = .returned (.bool true) ∧ Below w.heap.size w w' := by
  by_cases hn : n1 ≤ 40
  · cases first with
    | true => exact CoeffList_true _ _ n1 n2 _ _ w h1.sl.1 h2.sl.1 hn hT
    | false => exact CoeffList_false _ _ n1 n2 _ _ w h1.sl.1 h2.sl.1 hn hT
  · have t40 : (n1 : Int) > 40 := by omega
    have A := Lib.hid (AW.new hT)
    have HA := Lib.hid (fun W h => awake_any W h)
    clear h1 h2 hT hn
    go_enter Tryd.func5, Tryd.ntmps5
    go_wp2_with (go_at_call 9; refine (HA.out _ A.out.t).mono ?_; rintro e w1 ⟨rfl, hb⟩; have A1 := Lib.hid (A.out.below hb); clear hb)
    go_ret
    exact ⟨rfl, A1.out.b⟩
end
end Cf
end Go.Proofs.YteigdcbaojmfgaaDoor
