/- CoeffBack. -/
import Derived.Test.YteigdcbaojmfgaaDoorCiO
import Derived.Test.YteigdcbaojmfgaaDoorCiY
import Derived.Test.YteigdcbaojmfgaaDoorCiV
import Derived.Test.YteigdcbaojmfgaaDoorCiK
import Derived.Deep.RegionHeld3
namespace Go.Proofs.YteigdcbaojmfgaaDoor
open Go.RowKit
set_option linter.unusedSimpArgs false
set_option linter.unusedVariables false
namespace Cf
theorem pre_ext {l S : List Bool} (hl : l.length ≤ S.length) (h : ∀ i, i < l.length → S.getD i false = l.getD i false) : l <+: S := by
  rw [List.prefix_iff_eq_take]
  apply List.ext_getElem
  · simp; omega
  · intro i h1 h2
    have := h i h1
    rw [List.getD_eq_getElem?_getD, List.getD_eq_getElem?_getD, List.getElem?_eq_getElem (by omega), List.getElem?_eq_getElem h1] at this
    simp at this ⊢
    exact this.symm
/-- what stands at a place of a joined text. -/
theorem seen_at {F : Nat → Int} {K p n : Nat} {L : List Bool} (hF : ∀ i, i < L.length → bitI F i = b01 (L.getD i false)) {l : List Bool} (hl : l <+: L.drop p) (hn : l.length ≤ n) : l <+: seenL F p n := by
  refine pre_ext (by rw [seenL_len]; exact hn) (fun i hi => ?_)
  obtain ⟨t, ht⟩ := hl
  have hlen : p + i < L.length := by
    have := congrArg List.length ht
    simp at this
    omega
  have e1 : (seenL F p n).getD i false = (bitI F (p + i) == 1) := by
    unfold seenL
    rw [List.getD_eq_getElem?_getD]
    simp [show i < n by omega]
  have e2 : L.getD (p + i) false = l.getD i false := by
    have e3 : (L.drop p)[i]? = l[i]? := by rw [← ht, List.getElem?_append_left hi]
    rw [List.getElem?_drop] at e3
    rw [List.getD_eq_getElem?_getD, List.getD_eq_getElem?_getD, e3]
  rw [e1, hF _ hlen, e2]
  cases l.getD i false <;> rfl
theorem jn_bit (l : List Bool) (g : Nat → Int) (m i : Nat) (h : i < l.length) : bitI (byV (jnF l g) (l.length + m)) i = b01 (l.getD i false) := by
  rw [bit_byV]
  unfold hB jnF
  rw [if_pos (by omega), if_pos h]
  cases l.getD i false <;> rfl
theorem getF_0 (F : Nat → Int) (N : Nat) (first : Bool) : getF F N 0 first = getB first (S20 F N 0) := by
  unfold getF S20 seenN
  rw [if_neg (by omega), if_neg (by omega)]
  rfl
theorem bytes_pre (l : List Bool) (g : Nat → Int) (m : Nat) (h : l.length ≤ 20) : l <+: S20 (byV (jnF l g) (l.length + m)) ((l.length + m + 7) / 8) 0 := by
  unfold S20
  exact seen_at (K := 0) (L := l) (fun i hi => jn_bit l g m i hi) (by rw [List.drop_zero]; exact List.prefix_refl _) (by omega)
theorem S20_le (F : Nat → Int) (N q : Nat) : (S20 F N q).length ≤ 20 := by rw [S20_len]; omega
theorem put_bytes (first : Bool) {r l : Int} (g : Nat → Int) (m : Nat) (hp : pairB r l = true) : getF (byV (jnF (putB first r l) g) ((putB first r l).length + m)) (((putB first r l).length + m + 7) / 8) 0 first = ⟨r, l, false, ((putB first r l).length : Nat), 0⟩ := by
  rw [getF_0]
  exact put_got hp (S20_le _ _ _) (bytes_pre _ g m (put_len first r l).2)
theorem esc_bytes (first : Bool) {r l : Int} (g : Nat → Int) (m : Nat) (hp : pairB r l = true) : getF (byV (jnF (escL r l) g) ((escL r l).length + m)) (((escL r l).length + m + 7) / 8) 0 first = ⟨r, l, false, 20, 0⟩ := by
  rw [getF_0]
  exact esc_got hp (S20_le _ _ _) (bytes_pre _ g m (by rw [escL_len]; exact Nat.le_refl _))
/-- what holds in CoeffBack. -/
structure BK (w : World) (B : Nat) (r l : Int) (v : Value) (m : Nat) (g : Nat → Int) (V : World) : Prop where
  t : Tabs V
  b : Below w.heap.size w V
  c0 : V.cell? ⟨B, 0, none⟩ = some (.int .i64 r)
  c1 : V.cell? ⟨B, 1, none⟩ = some (.int .i64 l)
  s : Sl .i64 V v m g
theorem BK.below {w V V' : World} {B : Nat} {r l : Int} {v : Value} {m : Nat} {g : Nat → Int} (h : BK w B r l v m g V) (hb : Below V.heap.size V V') : BK w B r l v m g V' :=
  ⟨h.t.below hb, chain h.b hb, (hb.cell (World.block_lt_of_cell? _ _ h.c0)).trans h.c0, (hb.cell (World.block_lt_of_cell? _ _ h.c1)).trans h.c1, h.s.below hb⟩
theorem BK.new {w V : World} {r l : Int} {v : Value} {m : Nat} {g : Nat → Int} (h : AW w V) (hs : Sl .i64 V v m g) : BK w V.heap.size r l v m g (V.alloc (.cells #[.int .i64 r, .int .i64 l] 26)) := by
  have hb : Below V.heap.size V (V.alloc (.cells #[.int .i64 r, .int .i64 l] 26)) := (Below.refl _ V).alloc (Nat.le_refl _) _
  have hn := heap_alloc_new V (.cells #[.int .i64 r, .int .i64 l] 26)
  exact ⟨h.t.below hb, chain h.b hb, cell_row hn (i := 0) rfl, cell_row hn (i := 1) rfl, hs.below hb⟩
theorem byV_ok (f : Nat → Int) (k : Nat) : ∀ j n, j < n → 0 ≤ byV f k j ∧ byV f k j ≤ 255 := fun j _ _ => byV_bd f k j
theorem Arr.slB {w : World} {g N : Nat} {F : Nat → Int} (h : Arr w .u8 g N F) (hg : g < w.heap.size) (hN : N ≤ maxLen) : Sl .u8 w (.slice (some ⟨g, 0, none⟩) N N) N F := ⟨_, N, rfl, Nat.le_refl _, hN, .inr ⟨g, 0, rfl, hg, h.ints⟩⟩
/-- gets, of bytes that a text and others behind it make. -/
theorem gets_bytes {first : Bool} {r l n : Int} {lb : List Bool} {g : Nat → Int} {m gb : Nat} {W : World} (h20 : lb.length ≤ 20) (hm : m ≤ 60) (hT : Tabs W) (hA : Arr W .u8 gb ((lb.length + m + 7) / 8) (byV (jnF lb g) (lb.length + m))) (hg : gb < W.heap.size)
    (h : getF (byV (jnF lb g) (lb.length + m)) ((lb.length + m + 7) / 8) 0 first = ⟨r, l, false, n, 0⟩) :
    Calls Tryd.prog 24 #[.bool first, prV r l, .int .i64 n, .int .i64 0, .slice (some ⟨gb, 0, none⟩) ((lb.length + m + 7) / 8) ((lb.length + m + 7) / 8)] W fun e w' => e = .returned (.bool true) ∧ Below W.heap.size W w' :=
  gets_any _ _ _ first r l n 0 W (by omega) (Arr.slB hA hg (by unfold maxLen; omega)) (fun j hj => byV_bd _ _ j) hT h
section
set_option maxRecDepth 100000
set_option maxHeartbeats 4000000
theorem CoeffBack_any (x y : Int) (first : Bool) (a : Option Addr) (len cap : Nat) (zs : List Int) (w : World) (hx : (Lit.int .i64 x).wf = true) (hy : (Lit.int .i64 y).wf = true) (h : IsRow .i64 w a len cap zs) (hT : Tabs w) :
    Calls Tryd.prog 8 #[.int .i64 x, .int .i64 y, .bool first, .slice a len cap] w fun e w' => e = .returned (.bool true) ∧ Below w.heap.size w w' := by
  have hs := h.sl.1
  obtain ⟨g, hg⟩ : ∃ f : Nat → Int, (fun i => zs.getD i 0) = f := ⟨_, rfl⟩
  rw [hg] at hs
  have HK := Lib.hid (fun W h => CoeffKnown_any W h)
  have HO := Lib.hid (fun W => of_any x y W)
  have hp := of_pair x y
  obtain ⟨r, hr⟩ : ∃ r, x % 64 = r := ⟨_, rfl⟩
  obtain ⟨l, hl⟩ : ∃ r, ofL y = r := ⟨_, rfl⟩
  rw [hr, hl] at HO hp
  have A := Lib.hid (AW.new hT)
  have HS := Lib.hid hs
  clear hx hy h hg hs hr hl hT
  unfold prV at HO
  by_cases h60 : len ≤ 60
  · have t60 : ¬ (len : Int) > 60 := by omega
    have HP := Lib.hid (fun W h => Put_any r l first W h)
    have HE := Lib.hid (fun W h => Escape_any r l W h)
    have HSH := Lib.hid (fun W h => Short_any r l W h)
    rw [hp, if_pos rfl, if_pos rfl] at HP HE
    rw [putL_cs] at HP
    have LP := put_len first r l
    have HC1 := Lib.hid (fun most W (h1 : (putB first r l).length ≤ most) (h2 : most ≤ 20) => lcode_any (putB first r l) most W (by omega) h1 h2 (put_ones first r l))
    have HC2 := Lib.hid (fun W => lcode_any (escL r l) 20 W (by rw [escL_len]; decide) (by rw [escL_len]; exact Nat.le_refl _) (by decide) (esc_ones r l))
    have HB1 := Lib.hid (fun W h => lbytes_any (putB first r l) (.slice a len cap) len g W (by omega) (by omega) (by omega) h)
    have HB2 := Lib.hid (fun W h => lbytes_any (escL r l) (.slice a len cap) len g W (by rw [escL_len]; decide) (by rw [escL_len]; decide) (by omega) h)
    have HG1 := Lib.hid (fun W gb hT hA hg => gets_bytes (W := W) (gb := gb) LP.2 h60 hT hA hg (put_bytes first g len hp))
    have HG2 := Lib.hid (fun W gb hT hA hg => gets_bytes (W := W) (gb := gb) (by rw [escL_len]; exact Nat.le_refl _) h60 hT hA hg (esc_bytes first g len hp))
    have PS := Lib.hid (fun h => put_short first r l h)
    have PE := Lib.hid (fun h => put_esc first r l h)
    have EL := Lib.hid (escL_len r l)
    unfold BytesTo at HB1 HB2
    unfold prV at *
    by_cases hsh : shortL false r l = []
    · have e := PE.out hsh
      rw [e] at HP HB1 HG1 HC1
      rw [escL_len] at HB1 HG1 HC1 HB2 HG2
      have hT : ∃ T : ByteArray, sv (cs (escL r l)) = .string T ∧ T.size = 20 := ⟨_, rfl, by rw [ba_size, cs_len, escL_len]⟩
      obtain ⟨T, hT, hz⟩ := hT
      rw [hT] at HP HE HC2 HB1 HB2 HC1
      rw [show (shortL false r l != []) = false by rw [hsh]; rfl] at HSH
      obtain ⟨N2, hN2⟩ : ∃ N, (20 + len + 7) / 8 = N := ⟨_, rfl⟩
      rw [hN2] at HB1 HG1 HB2 HG2
      have HC20 := Lib.hid (fun W => HC1.out 20 W (by decide) (by decide))
      clear hsh e hT hN2 LP PS PE EL hp h60 HC1
      go_enter Tryd.func8, Tryd.ntmps8
      go_wp2_with (first
        | (go_at_call 7; refine (HK.out _ A.out.t).mono ?_; rintro e w1 ⟨rfl, hb⟩; have A1 := Lib.hid (A.out.below hb); clear hb)
        | (go_at_call 14; refine (HO.out _).mono ?_; rintro e w2 ⟨rfl, hb⟩; have A2 := Lib.hid (A1.out.below hb); have K0 := Lib.hid (BK.new (r := r) (l := l) A2.out (HS.out.below A2.out.b)); obtain ⟨_, _, k0, k1, _⟩ := K0.out; clear hb)
        | (go_at_call 15; refine (HP.out _ K0.out.t).mono ?_; rintro e w3 ⟨rfl, hb⟩; have K1 := Lib.hid (K0.out.below hb); clear k0 k1; obtain ⟨_, _, k0, k1, _⟩ := K1.out; clear hb)
        | (go_at_call 16; refine (HE.out _ K1.out.t).mono ?_; rintro e w4 ⟨rfl, hb⟩; have K2 := Lib.hid (K1.out.below hb); clear k0 k1; obtain ⟨_, _, k0, k1, _⟩ := K2.out; clear hb)
        | (go_at_call 21; refine (HSH.out _ K2.out.t).mono ?_; rintro e w5 ⟨rfl, hb⟩; have K3 := Lib.hid (K2.out.below hb); clear k0 k1; obtain ⟨_, _, k0, k1, _⟩ := K3.out; clear hb)
        | (go_at_call 17; refine (HC2.out _).mono ?_; rintro e w6 ⟨rfl, rfl⟩))
      have S0 := Lib.hid (K3.out.below (Below.refl _ _).drew)
      clear k0 k1
      obtain ⟨_, _, k0, k1, _⟩ := S0.out
      have PB := Lib.hid (rfl : w2.heap.size = w2.heap.size)
      go_region_held3 (fun w' => w'.cell? ⟨w2.heap.size, 0, none⟩ = some (.int .i64 r) ∧ w'.cell? ⟨w2.heap.size, 1, none⟩ = some (.int .i64 l))
        (first | exact ⟨S0.out.c0, S0.out.c1⟩ | exact ⟨S1.out.c0, S1.out.c1⟩ | exact ⟨S2.out.c0, S2.out.c1⟩ | exact ⟨S3.out.c0, S3.out.c1⟩ | exact ⟨S4.out.c0, S4.out.c1⟩)
        (first
          | (go_at_call 18; have t0 := S0.out; refine (HB1.out _ t0.s).mono ?_; rintro e V1 ⟨g1, rfl, hA, hl, _, hb⟩; have S1 := Lib.hid (t0.below hb); have A1 := Lib.hid hA; have L1 := Lib.hid hl; clear hA hl hb t0 S0)
          | (go_at_call 24; have t0 := S1.out; refine (HG1.out _ _ t0.t A1.out L1.out).mono ?_; rintro e V2 ⟨rfl, hb⟩; have S2 := Lib.hid (t0.below hb); clear hb t0 S1)
          | (go_at_call 18; have t0 := S2.out; refine (HB2.out _ t0.s).mono ?_; rintro e V3 ⟨g3, rfl, hA, hl, _, hb⟩; have S3 := Lib.hid (t0.below hb); have A3 := Lib.hid hA; have L3 := Lib.hid hl; clear hA hl hb t0 S2)
          | (go_at_call 24; have t0 := S3.out; refine (HG2.out _ _ t0.t A3.out L3.out).mono ?_; rintro e V4 ⟨rfl, hb⟩; have S4 := Lib.hid (t0.below hb); clear hb t0 S3))
      all_goals (go_wp2_with fail; go_ret; exact ⟨rfl, S4.out.b⟩)
    · have hle := PS.out hsh
      have hT : ∃ T : ByteArray, sv (cs (escL r l)) = .string T ∧ T.size = 20 := ⟨_, rfl, by rw [ba_size, cs_len, escL_len]⟩
      obtain ⟨T, hT, hz⟩ := hT
      have hU : ∃ U : ByteArray, sv (cs (putB first r l)) = .string U ∧ U.size = (putB first r l).length := ⟨_, rfl, by rw [ba_size, cs_len]⟩
      obtain ⟨U, hU, hz2⟩ := hU
      have HC14 := Lib.hid (fun W => HC1.out 14 W hle (by decide))
      rw [hT] at HE HC2 HB2
      rw [hU] at HP HB1 HC14
      rw [show (shortL false r l != []) = true by simpa using hsh] at HSH
      generalize putB first r l = lb at *
      obtain ⟨n1, hn1⟩ : ∃ n, lb.length = n := ⟨_, rfl⟩
      rw [hn1] at HB1 HG1 hz2 hle
      rw [escL_len] at HB2 HG2
      obtain ⟨N1, hN1⟩ : ∃ N, (n1 + len + 7) / 8 = N := ⟨_, rfl⟩
      obtain ⟨N2, hN2⟩ : ∃ N, (20 + len + 7) / 8 = N := ⟨_, rfl⟩
      rw [hN1] at HB1 HG1
      rw [hN2] at HB2 HG2
      clear hsh hT hU hN1 hN2 LP PS PE EL hp h60 HC1 hn1 hle
      go_enter Tryd.func8, Tryd.ntmps8
      go_wp2_with (first
        | (go_at_call 7; refine (HK.out _ A.out.t).mono ?_; rintro e w1 ⟨rfl, hb⟩; have A1 := Lib.hid (A.out.below hb); clear hb)
        | (go_at_call 14; refine (HO.out _).mono ?_; rintro e w2 ⟨rfl, hb⟩; have A2 := Lib.hid (A1.out.below hb); have K0 := Lib.hid (BK.new (r := r) (l := l) A2.out (HS.out.below A2.out.b)); obtain ⟨_, _, k0, k1, _⟩ := K0.out; clear hb)
        | (go_at_call 15; refine (HP.out _ K0.out.t).mono ?_; rintro e w3 ⟨rfl, hb⟩; have K1 := Lib.hid (K0.out.below hb); clear k0 k1; obtain ⟨_, _, k0, k1, _⟩ := K1.out; clear hb)
        | (go_at_call 16; refine (HE.out _ K1.out.t).mono ?_; rintro e w4 ⟨rfl, hb⟩; have K2 := Lib.hid (K1.out.below hb); clear k0 k1; obtain ⟨_, _, k0, k1, _⟩ := K2.out; clear hb)
        | (go_at_call 21; refine (HSH.out _ K2.out.t).mono ?_; rintro e w5 ⟨rfl, hb⟩; have K3 := Lib.hid (K2.out.below hb); clear k0 k1; obtain ⟨_, _, k0, k1, _⟩ := K3.out; clear hb)
        | (go_at_call_of 17 (Value.int IntKind.i64 14); refine (HC14.out _).mono ?_; rintro e w6 ⟨rfl, rfl⟩)
        | (go_at_call_of 17 (Value.int IntKind.i64 20); refine (HC2.out _).mono ?_; rintro e w7 ⟨rfl, rfl⟩))
      have S0 := Lib.hid (K3.out.below (Below.refl _ _).drew)
      clear k0 k1
      obtain ⟨_, _, k0, k1, _⟩ := S0.out
      have PB := Lib.hid (rfl : w2.heap.size = w2.heap.size)
      go_region_held3 (fun w' => w'.cell? ⟨w2.heap.size, 0, none⟩ = some (.int .i64 r) ∧ w'.cell? ⟨w2.heap.size, 1, none⟩ = some (.int .i64 l))
        (first | exact ⟨S0.out.c0, S0.out.c1⟩ | exact ⟨S1.out.c0, S1.out.c1⟩ | exact ⟨S2.out.c0, S2.out.c1⟩ | exact ⟨S3.out.c0, S3.out.c1⟩ | exact ⟨S4.out.c0, S4.out.c1⟩)
        (first
          | (go_at_call 18; have t0 := S0.out; refine (HB1.out _ t0.s).mono ?_; rintro e V1 ⟨g1, rfl, hA, hl, _, hb⟩; have S1 := Lib.hid (t0.below hb); have A1 := Lib.hid hA; have L1 := Lib.hid hl; clear hA hl hb t0 S0)
          | (go_at_call 24; have t0 := S1.out; refine (HG1.out _ _ t0.t A1.out L1.out).mono ?_; rintro e V2 ⟨rfl, hb⟩; have S2 := Lib.hid (t0.below hb); clear hb t0 S1)
          | (go_at_call 18; have t0 := S2.out; refine (HB2.out _ t0.s).mono ?_; rintro e V3 ⟨g3, rfl, hA, hl, _, hb⟩; have S3 := Lib.hid (t0.below hb); have A3 := Lib.hid hA; have L3 := Lib.hid hl; clear hA hl hb t0 S2)
          | (go_at_call 24; have t0 := S3.out; refine (HG2.out _ _ t0.t A3.out L3.out).mono ?_; rintro e V4 ⟨rfl, hb⟩; have S4 := Lib.hid (t0.below hb); clear hb t0 S3))
      all_goals (go_wp2_with fail; go_ret; exact ⟨rfl, S4.out.b⟩)
  · have t60 : (len : Int) > 60 := by omega
    unfold prV at *
    clear h60 hp
    go_enter Tryd.func8, Tryd.ntmps8
    go_wp2_with (first
      | (go_at_call 7; refine (HK.out _ A.out.t).mono ?_; rintro e w1 ⟨rfl, hb⟩; have A1 := Lib.hid (A.out.below hb); clear hb)
      | (go_at_call 14; refine (HO.out _).mono ?_; rintro e w2 ⟨rfl, hb⟩; have A2 := Lib.hid (A1.out.below hb); clear hb))
    go_ret
    exact ⟨rfl, A2.out.b.alloc A2.out.b.size _⟩
end
end Cf
end Go.Proofs.YteigdcbaojmfgaaDoor
