/- coeff.Get, whole. -/
import Derived.Test.YteigdcbaojmfgaaDoorCfY
namespace Go.Proofs.YteigdcbaojmfgaaDoor
open Go.RowKit Go.Shelf
set_option linter.unusedSimpArgs false
set_option linter.unusedVariables false
namespace Cf
/-- what Get tells: run, level, is it the end, bits, cause. -/
structure G5 where
  (r l : Int) (en : Bool) (n e : Int)
def G5.val (g : G5) : Value := .tuple #[prV g.r g.l, .bool g.en, .int .i64 g.n, .int .i64 g.e]
def gErr (e : Int) : G5 := ⟨0, 0, false, 0, e⟩
def tabG (first : Bool) (x : List UInt8) : G5 := match (tab first).find? (hitB x) with
  | some e => ⟨e.run, lvS x e, false, (e.code.length + 1 : Nat), 0⟩
  | none => gErr (if (!first && sameB x [49, 48]) || (tab first).any (nearB x) then 5 else 7)
def escG (L : List Bool) : G5 := if L.length < 20 then gErr 5 else if lv8 L = 0 ∨ lv8 L = -128 then gErr 10 else ⟨numL 0 ((L.take 12).drop 6), lv8 L, false, 20, 0⟩
def getB (first : Bool) (L : List Bool) : G5 :=
  if sameB (cs L) escB = true then escG L else if first = false ∧ Lib.hasPrefix (cs L) [49, 48] = true then ⟨0, 0, true, 2, 0⟩ else tabG first (cs L)
def getF (f : Nat → Int) (N : Nat) (p : Int) (first : Bool) : G5 := if p < 0 then gErr 3 else if 8 * (N : Int) < p then gErr 5 else getB first (seenL f p.toNat (seenN N p.toNat))
theorem getX_tab (x : List UInt8) (first : Bool) : getX x first (!first && sameB x [49, 48]) = (tabG first x).val := by
  unfold getX tabG
  cases (tab first).find? (hitB x) <;> rfl
theorem hasPrefix_ex {x y : List UInt8} (h : Lib.hasPrefix x y = true) : ∃ z, x = y ++ z := by
  unfold Lib.hasPrefix at h
  have h2 : y <+: x := by simpa using h
  obtain ⟨z, rfl⟩ := h2
  exact ⟨z, rfl⟩
theorem Get_any (v : Value) (N : Nat) (f : Nat → Int) (p : Int) (first : Bool) (w : World) (hN : N ≤ 1000000) (hs : Sl .u8 w v N f) (hb : ∀ j, j < N → 0 ≤ f j ∧ f j ≤ 255) (hT : Tabs w) :
    Calls Tryd.prog 11 #[v, .int .i64 p, .bool first] w fun e w' => e = .returned (getF f N p first).val ∧ Below w.heap.size w w' := by
  unfold getF
  by_cases h0 : p < 0
  · rw [if_pos h0]
    exact Get_low v p first w h0
  rw [if_neg h0]
  have HS : Hid (∀ W, Below w.heap.size w W → Calls Tryd.prog 28 #[v, .int .i64 ((p.toNat : Nat) : Int)] W fun e w' => e = .returned (sv (cs (seenL f p.toNat (seenN N p.toNat)))) ∧ Below W.heap.size W w') ∨ 8 * (N : Int) < p := by
    by_cases h1 : 8 * (N : Int) < p
    · exact .inr h1
    · exact .inl (Lib.hid fun W hW => seen_any v N f p.toNat W hN (hs.below hW) hb (by omega))
  obtain ⟨a, c, rfl, _, _, _⟩ := hs
  by_cases h1 : 8 * (N : Int) < p
  · rw [if_pos h1]
    exact Get_high a N c p first w hN h1
  rw [if_neg h1]
  have HS := HS.resolve_right h1
  obtain ⟨q, hq⟩ : ∃ q : Nat, p.toNat = q := ⟨_, rfl⟩
  obtain rfl : p = (q : Int) := by omega
  rw [hq] at HS ⊢
  have hq8 : q ≤ 8 * N := by omega
  have hL : (seenL f q (seenN N q)).length ≤ 20 := by simp [seenL, seenN]; omega
  generalize seenL f q (seenN N q) = L at *
  have hx : (cs L).length ≤ 20 := by rw [cs_len]; exact hL
  unfold getB
  by_cases he : sameB (cs L) escB = true
  · rw [if_pos he]
    unfold escG
    by_cases hl : L.length < 20
    · rw [if_pos hl]
      exact Get_more a N c q f first w (cs L) hN hq8 hT HS (by rw [cs_len]; exact hl) he
    · rw [if_neg hl]
      refine (Get_esc a N c q f first w L hN hq8 hT HS (by omega) he).mono fun e w' ⟨h, hb⟩ => ⟨?_, hb⟩
      rw [h]
      by_cases hc : lv8 L = 0 ∨ lv8 L = -128
      · rw [if_pos hc, if_pos hc]; rfl
      · rw [if_neg hc, if_neg hc]; rfl
  rw [if_neg he]
  have he2 := Bool.eq_false_iff.2 he
  cases first with
  | true =>
    rw [if_neg (by simp), ← getX_tab]
    exact Get_tab1 a N c q w (cs L) hN hq8 hT HS he2 hx
  | false =>
    by_cases hp : Lib.hasPrefix (cs L) [49, 48] = true
    · rw [if_pos ⟨rfl, hp⟩]
      exact Get_end a N c q f w (cs L) hN hq8 hT HS he2 (hasPrefix_ex hp)
    · rw [if_neg (fun h => hp h.2), ← getX_tab]
      exact Get_tab0 a N c q w (cs L) hN hq8 hT HS he2 hx (Bool.eq_false_iff.2 hp)
end Cf
end Go.Proofs.YteigdcbaojmfgaaDoor
