/- CoeffGets. -/
import Derived.Test.YteigdcbaojmfgaaDoorCiB
import Derived.Test.YteigdcbaojmfgaaDoorChU
import Derived.Test.YteigdcbaojmfgaaDoorLent
namespace Go.Proofs.YteigdcbaojmfgaaDoor
open Go.RowKit
set_option linter.unusedSimpArgs false
set_option linter.unusedVariables false
namespace Cf
/-- what holds in CoeffGets behind LentBytes. -/
structure LG (w : World) (a : Option Addr) (len cap g c : Nat) (f : Nat → Int) (V : World) : Prop where
  t : Tabs V
  b : Below w.heap.size w V
  s : Sl .u8 V (.slice a len cap) len f
  i : Sl .u8 V (.slice (some ⟨g, 0, none⟩) len c) len f
  m : Arr V .u8 g (len + 4) (lentF len f)
  l : g < V.heap.size
theorem LG.below {w V V' : World} {a : Option Addr} {len cap g c : Nat} {f : Nat → Int} (h : LG w a len cap g c f V) (hb : Below V.heap.size V V') : LG w a len cap g c f V' :=
  ⟨h.t.below hb, chain h.b hb, h.s.below hb, h.i.below hb, h.m.below hb h.l, Nat.lt_of_lt_of_le h.l hb.size⟩
section
set_option maxRecDepth 100000
set_option maxHeartbeats 4000000
set_option linter.unusedVariables false
theorem CoeffGets_any (a : Option Addr) (len cap : Nat) (zs : List Int) (p : Int) (first : Bool) (w : World) (h : IsRow .u8 w a len cap zs) (hp : (Lit.int .i64 p).wf = true) (hT : Tabs w) :
    Calls Tryd.prog 3 #[.slice a len cap, .int .i64 p, .bool first] w fun e w' => e = .returned (.bool true) ∧ Below w.heap.size w w' := by
  have hs := h.sl.1
  have hb := fun i (_ : i < len) => byte_bd h i
  have hp2 : p ≤ 9223372036854775807 := by
    have e1 : IntKind.i64.max = 9223372036854775807 := rfl
    simp only [Lit.wf, Bool.and_eq_true, decide_eq_true_eq, e1] at hp
    exact hp.2
  obtain ⟨f, hf⟩ : ∃ f : Nat → Int, (fun i => zs.getD i 0) = f := ⟨_, rfl⟩
  rw [hf] at hs
  have hb : ∀ i, i < len → 0 ≤ f i ∧ f i ≤ 255 := by rw [← hf]; exact hb
  have HA := Lib.hid (fun W h => awake_any W h)
  have HT := Lib.hid hT
  clear h hp hf
  by_cases h100 : len ≤ 100
  · have t1 : ¬ (len : Int) > 100 := by omega
    have HL := Lib.hid (LentBytes_any _ len f w (by omega) hs)
    have HG := Lib.hid (fun V g c (L : LG w a len cap g c f V) => Get_any _ len f p first V (by omega) L.i hb L.t)
    have HR := Lib.hid (fun V g c (L : LG w a len cap g c f V) => rGet_any _ len f p first V (by omega) L.s hb hp2)
    have HK := Lib.hid (fun V g c (h1 : len + 4 ≤ c) (h2 : c ≤ maxLen) (L : LG w a len cap g c f V) => KeptBytes_row g c len a cap f V (by omega) h1 h2 L.m L.s)
    obtain ⟨G, hG⟩ : ∃ G, getF f len p first = G := ⟨_, rfl⟩
    rw [hG] at HG HR
    obtain ⟨r, l, en, n, er⟩ := G
    unfold G5.val prV at HG HR
    have HS := Lib.hid hs
    clear hs hb hp2 hT h100 hG
    go_enter Tryd.func3, Tryd.ntmps3
    go_wp2_with (first
      | (go_at_call 10; refine HL.out.mono ?_; rintro e w1 ⟨g, c, rfl, h1, h2, h3, h4, h5, h6⟩; have L1 := Lib.hid (show LG w a len cap g c f w1 from ⟨HT.out.below h6, h6, HS.out.below h6, Lent.sl h2 h3 h4 h5, h5, h2⟩); have M3 := Lib.hid h3; have M4 := Lib.hid h4; clear h1 h2 h3 h4 h5 h6)
      | (go_at_call 11; refine (HG.out _ _ _ L1.out).mono ?_; rintro e w2 ⟨rfl, hB⟩; have L2 := Lib.hid ((L1.out.below hB).below ((Below.refl _ _).alloc (Nat.le_refl _) (.cells #[.int .i64 r, .int .i64 l] 26))); have N2 := Lib.hid (heap_alloc_new w2 (.cells #[.int .i64 r, .int .i64 l] 26)); clear hB)
      | (go_at_call 12; refine (HR.out _ _ _ L2.out).mono ?_; rintro e w3 ⟨rfl, hB⟩; have L3 := Lib.hid ((L2.out.below hB).below ((Below.refl _ _).alloc (Nat.le_refl _) (.cells #[.int .i64 r, .int .i64 l] 26))); have k2 := (hB.block _ (Array.getElem?_eq_some_iff.1 N2.out).1).trans N2.out; have c0 := cell_row k2 (i := 0) rfl; have c1 := cell_row k2 (i := 1) rfl; have lz := (Array.getElem?_eq_some_iff.1 k2).1; clear hB k2)
      | (go_at_call 13; refine (HK.out _ _ _ M3.out M4.out L3.out).mono ?_; rintro e w4 ⟨rfl, hB⟩; have L4 := Lib.hid (L3.out.below hB); clear hB)
      | (go_at_call 9; refine (HA.out _ L4.out.t).mono ?_; rintro e w5 ⟨rfl, hB⟩; have L5 := Lib.hid (L4.out.below hB); clear hB))
    go_ret
    exact ⟨rfl, L5.out.b⟩
  · have t1 : (len : Int) > 100 := by omega
    clear hs hb hp2 h100
    go_enter Tryd.func3, Tryd.ntmps3
    go_wp2_with (go_at_call 9; refine (HA.out _ HT.out).mono ?_; rintro e w5 ⟨rfl, hB⟩)
    go_ret
    exact ⟨rfl, hB⟩
end
end Cf
end Go.Proofs.YteigdcbaojmfgaaDoor
