/- The document's Get and the program's, plain: both come to the same. -/
import Derived.Test.YteigdcbaojmfgaaDoorChS
namespace Go.Proofs.YteigdcbaojmfgaaDoor
open Go.RowKit
set_option linter.unusedSimpArgs false
set_option linter.unusedVariables false
namespace Cf
def escV (x : Int) : G5 := if x % 256 = 0 ∨ x % 256 = 128 then gErr 10 else ⟨x / 256, if x % 256 > 128 then x % 256 - 256 else x % 256, false, 20, 0⟩
theorem numL_app : ∀ (a b : List Bool) (x : Nat), numL x (a ++ b) = numL (numL x a) b
  | [], _, _ => rfl
  | _ :: a, b, _ => numL_app a b _
theorem numL_lin (l : List Bool) (a : Nat) : numL a l = a * 2 ^ l.length + numL 0 l := numL_one l a
theorem rdV_numL (F : Nat → Int) (q : Nat) : ∀ n, rdV F q n = (numL 0 (seenL F q n) : Int)
  | 0 => rfl
  | n + 1 => by
    rw [rdV, rdV_numL F q n, seenL_snoc, numL_snoc]
    rcases bitI_01 F (q + n) with h | h <;> rw [h] <;> simp
theorem seenL_drop (F : Nat → Int) (q n k : Nat) : (seenL F q n).drop k = seenL F (q + k) (n - k) := by
  unfold seenL
  apply List.ext_getElem
  · simp
  · intro i h1 h2
    simp
    rw [Nat.add_assoc]
theorem seenL_split (F : Nat → Int) (q a b : Nat) : seenL F q (a + b) = seenL F q a ++ seenL F (q + a) b := by
  have h := List.take_append_drop a (seenL F q (a + b))
  rw [seenL_take, seenL_drop, Nat.min_eq_left (by omega), Nat.add_sub_cancel_left] at h
  exact h.symm
theorem escG_V (F : Nat → Int) (q : Nat) : escG (seenL F q 20) = escV (rdV F (q + 6) 14) := by
  have hl := seenL_len F q 20
  have e1 : (seenL F q 20).drop 12 = seenL F (q + 12) 8 := seenL_drop _ _ _ _
  have e2 : ((seenL F q 20).take 12).drop 6 = seenL F (q + 6) 6 := by rw [seenL_take, show min 12 20 = 12 from rfl, seenL_drop]
  have e3 : seenL F (q + 6) 14 = seenL F (q + 6) 6 ++ seenL F (q + 12) 8 := seenL_split F (q + 6) 6 8
  unfold escG
  have e4 : numL 0 (seenL F (q + 6) 6 ++ seenL F (q + 12) 8) = numL 0 (seenL F (q + 6) 6) * 2 ^ 8 + numL 0 (seenL F (q + 12) 8) := by rw [numL_app, numL_lin, seenL_len]
  rw [if_neg (by omega), rdV_numL, e3, e4]
  unfold lv8
  rw [e1, e2]
  have h8 := numL_bd (seenL F (q + 12) 8) 0 0 (by decide)
  rw [seenL_len] at h8
  have h82 : numL 0 (seenL F (q + 12) 8) < 256 := h8
  obtain ⟨m, hm⟩ : ∃ m, numL 0 (seenL F (q + 12) 8) = m := ⟨_, rfl⟩
  obtain ⟨r, hr⟩ : ∃ m, numL 0 (seenL F (q + 6) 6) = m := ⟨_, rfl⟩
  rw [hm, hr]
  rw [hm] at h82
  have ew : IntKind.i8.wrap (m : Int) = if 128 ≤ m then (m : Int) - 256 else m := by
    have e1 : ((2 : Int) ^ IntKind.i8.bits) = 256 := rfl
    have e2 : ((2 : Int) ^ (IntKind.i8.bits - 1)) = 128 := rfl
    have e3 : IntKind.i8.signed = true := rfl
    simp only [IntKind.wrap, e1, e2, e3, Bool.true_and, decide_eq_true_eq]
    split <;> split <;> omega
  rw [ew]
  unfold escV
  have x1 : ((r * 2 ^ 8 + m : Nat) : Int) % 256 = m := by omega
  have x2 : ((r * 2 ^ 8 + m : Nat) : Int) / 256 = r := by omega
  rw [x1, x2]
  by_cases h : 128 ≤ m
  · rw [if_pos h]
    by_cases h2 : m = 128
    · rw [if_pos (by omega), if_pos (by omega)]
    · rw [if_neg (by omega), if_neg (by omega), if_pos (by omega)]
  · rw [if_neg h]
    by_cases h2 : m = 0
    · rw [if_pos (by omega), if_pos (by omega)]
    · rw [if_neg (by omega), if_neg (by omega), if_neg (by omega)]
/-- entry i. -/
def eI (first : Bool) (i : Nat) : Ent := (tab first).getD i ⟨0, 0, []⟩
theorem eI_mem {first : Bool} {e : Ent} (h : e ∈ tab first) : ∃ i, i < 63 ∧ eI first i = e := by
  obtain ⟨i, hi, he⟩ := List.mem_iff_getElem.1 h
  have hl := tab_len first
  refine ⟨i, by omega, ?_⟩
  unfold eI
  rw [List.getD_eq_getElem?_getD, List.getElem?_eq_getElem hi, he]
  rfl
theorem mem_eI {first : Bool} {i : Nat} (h : i < 63) : eI first i ∈ tab first := by
  have hl := tab_len first
  unfold eI
  rw [List.getD_eq_getElem?_getD, List.getElem?_eq_getElem (by omega)]
  exact List.getElem_mem _
theorem cI_eI {first : Bool} {i : Nat} (h : i < 63) : cI first i = (eI first i).code := (cI_tab first i h).1
theorem hasPrefix_cs (S : List Bool) : Lib.hasPrefix (cs S) [49, 48] = true ↔ [true, false] <+: S := by
  rw [endB_cs]
  unfold Lib.hasPrefix
  rw [List.isPrefixOf_iff_prefix]
  exact cs_pre
inductive RC (first : Bool) (F : Nat → Int) (N q : Nat) : Prop
  | err (e : Int) (he : e = 5 ∨ e = 7) (h : rdQ first F N q = (0, 0, e)) (g : getB first (S20 F N q) = gErr e)
  | fin (hf : first = false) (h : rdQ first F N q = (1001, 2, 0)) (g : getB first (S20 F N q) = ⟨0, 0, true, 2, 0⟩)
  | esc (h : rdQ first F N q = (1000, 6, 0)) (hq : q + 6 ≤ 8 * N) (g : (8 * N < q + 20 ∧ getB first (S20 F N q) = gErr 5) ∨ (q + 20 ≤ 8 * N ∧ getB first (S20 F N q) = escV (rdV F (q + 6) 14)))
  | code (i n : Nat) (hi : i < 63) (hn : n = (eI first i).code.length) (h : rdQ first F N q = ((i : Int), (n : Int), 0)) (hq : q + n ≤ 8 * N) (g : (8 * N < q + n + 1 ∧ getB first (S20 F N q) = gErr 5) ∨ (q + n + 1 ≤ 8 * N ∧ getB first (S20 F N q) = ⟨(eI first i).run, if bitI F (q + n) = 1 then -((eI first i).lvl : Int) else (eI first i).lvl, false, (n : Int) + 1, 0⟩))
theorem eI_small {first : Bool} {i : Nat} (h : i < 63) : (eI first i).code.length ≤ 13 ∧ 1 ≤ (eI first i).code.length ∧ 1 ≤ (eI first i).lvl ∧ (eI first i).lvl ≤ 15 ∧ (eI first i).run ≤ 26 := tab_codes first _ (mem_eI h)
theorem tabG_near {first : Bool} {S : List Bool} {i : Nat} (hi : i < 63) (hn : (tab first).find? (hitB (cs S)) = none) (h : S <+: cI first i) : tabG first (cs S) = gErr 5 := by
  have e : (tab first).any (nearB (cs S)) = true := List.any_eq_true.2 ⟨eI first i, mem_eI hi, by
    unfold nearB
    rw [cI_eI hi] at h
    rw [sameB_cs.2 (.inl h), Bool.true_and, decide_eq_true_eq, cs_len]
    exact h.length_le⟩
  unfold tabG
  rw [hn, e, Bool.or_true]
  rfl
theorem rd_cases (first : Bool) (F : Nat → Int) (N q : Nat) (hq : q ≤ 8 * N) : RC first F N q := by
  obtain ⟨S, hS⟩ : ∃ S, S20 F N q = S := ⟨_, rfl⟩
  have hl : S.length = min 20 (8 * N - q) := by rw [← hS]; exact S20_len F N q
  have hge := nOf_ge first
  have hesc := cI_esc first
  by_cases hE : sameB (cs S) escB = true
  · have hG : getB first S = escG S := by unfold getB; rw [if_pos hE]
    rw [escB_cs, sameB_cs] at hE
    by_cases h : escC <+: S
    · have h6 := h.length_le
      have h6' : 6 ≤ S.length := h6
      have hh := rd_hit (first := first) (F := F) (N := N) (q := q) (i := nOf first - 1) (by omega) (by rw [hesc.1, hS]; exact h)
      rw [hesc.1, hesc.2] at hh
      refine .esc hh (by omega) ?_
      rw [hS, hG]
      by_cases h20 : q + 20 ≤ 8 * N
      · refine .inr ⟨h20, ?_⟩
        have e : S = seenL F q 20 := by rw [← hS]; unfold S20; rw [Nat.min_eq_left (by omega)]
        rw [e, escG_V]
      · refine .inl ⟨by omega, ?_⟩
        unfold escG
        rw [if_pos (by omega)]
    · have h2 := hE.resolve_right h
      have hne : S ≠ escC := fun e => h (e ▸ List.prefix_refl _)
      have hh := rd_near (first := first) (F := F) (N := N) (q := q) (i := nOf first - 1) (by omega) (by rw [hesc.1, hS]; exact h2) (by rw [hesc.1, hS]; exact hne)
      refine .err 5 (.inl rfl) hh ?_
      rw [hS, hG]
      unfold escG
      rw [if_pos (by have := h2.length_le; have h6 : escC.length = 6 := rfl; omega)]
  have hE2 : ¬ (S <+: escC ∨ escC <+: S) := fun h => hE (by rw [escB_cs]; exact sameB_cs.2 h)
  by_cases hend : first = false ∧ Lib.hasPrefix (cs S) [49, 48] = true
  · obtain ⟨rfl, hp⟩ := hend
    have hG : getB false S = ⟨0, 0, true, 2, 0⟩ := by unfold getB; rw [if_neg hE, if_pos ⟨rfl, hp⟩]
    have hh := rd_hit (first := false) (F := F) (N := N) (q := q) (i := 63) (by decide) (by rw [cI_end.1, hS]; exact (hasPrefix_cs S).1 hp)
    rw [cI_end.1, cI_end.2] at hh
    exact .fin rfl hh (by rw [hS, hG])
  have hG : getB first S = tabG first (cs S) := by unfold getB; rw [if_neg hE, if_neg hend]
  cases hf : (tab first).find? (hitB (cs S)) with
  | some e =>
    have hm := List.mem_of_find?_eq_some hf
    have hit := List.find?_some hf
    obtain ⟨i, hi, rfl⟩ := eI_mem hm
    unfold hitB at hit
    rw [Bool.and_eq_true, decide_eq_true_eq, cs_len] at hit
    have hp : (eI first i).code <+: S := by
      rcases sameB_cs.1 hit.1 with h | h
      · have := h.length_le; omega
      · exact h
    have hh := rd_hit (first := first) (F := F) (N := N) (q := q) (i := i) (by omega) (by rw [cI_eI hi, hS]; exact hp)
    rw [(cI_tab first i hi).2, cI_eI hi] at hh
    refine .code i _ hi rfl hh (by omega) (.inr ⟨by omega, ?_⟩)
    have hsm := eI_small (first := first) hi
    rw [hS, hG]
    unfold tabG
    rw [hf]
    have hx : (cs S).getD (eI first i).code.length 0 = bch (bitI F (q + (eI first i).code.length) == 1) := by
      rw [← hS]
      unfold S20 seenL cs
      rw [List.getD_eq_getElem?_getD]
      simp
      rw [List.getElem?_range (by omega)]
      rfl
    have hlv : lvS (cs S) (eI first i) = if bitI F (q + (eI first i).code.length) = 1 then -((eI first i).lvl : Int) else (eI first i).lvl := by
      unfold lvS
      rw [hx]
      rcases bitI_01 F (q + (eI first i).code.length) with h | h
      · rw [h]; rfl
      · rw [h, if_pos (show bch ((1 : Int) == 1) = 49 from rfl), if_pos rfl]
        exact w64 (by omega)
    simp only [hlv]
    congr 1
  | none =>
    by_cases hnear : ∃ i, i < 63 ∧ S <+: cI first i
    · obtain ⟨i, hi, hp⟩ := hnear
      have hT := tabG_near hi hf hp
      by_cases he : S = cI first i
      · have hsm := eI_small (first := first) hi
        have hh := rd_hit (first := first) (F := F) (N := N) (q := q) (i := i) (by omega) (by rw [hS, he]; exact List.prefix_refl _)
        rw [(cI_tab first i hi).2, cI_eI hi] at hh
        have hlen : S.length = (eI first i).code.length := by rw [he, cI_eI hi]
        exact .code i _ hi rfl hh (by omega) (.inl ⟨by omega, by rw [hS, hG, hT]⟩)
      · exact .err 5 (.inl rfl) (rd_near (i := i) (by omega) (by rw [hS]; exact hp) (by rw [hS]; exact he)) (by rw [hS, hG, hT])
    by_cases hend2 : first = false ∧ S <+: [true, false]
    · obtain ⟨rfl, hp⟩ := hend2
      have hne : S ≠ [true, false] := fun e => hend ⟨rfl, (hasPrefix_cs S).2 (e ▸ List.prefix_refl _)⟩
      refine .err 5 (.inl rfl) (rd_near (i := 63) (by decide) (by rw [hS, cI_end.1]; exact hp) (by rw [hS, cI_end.1]; exact hne)) ?_
      rw [hS, hG]
      unfold tabG
      rw [hf]
      have e : sameB (cs S) [49, 48] = true := by rw [endB_cs]; exact sameB_cs.2 (.inl hp)
      simp only [e]
      rfl
    · have hno1 : ∀ i, i < nOf first → ¬ cI first i <+: S := by
        intro i hi hp
        by_cases h63 : i < 63
        · have hm := mem_eI (first := first) h63
          rw [cI_eI h63] at hp
          by_cases hlt : (eI first i).code.length < S.length
          · have := List.find?_eq_none.1 hf _ hm
            unfold hitB at this
            rw [sameB_cs.2 (.inr hp), Bool.true_and, decide_eq_true_eq, cs_len] at this
            exact this hlt
          · have e := hp.eq_of_length_le (by omega)
            exact hnear ⟨i, h63, by rw [cI_eI h63, e]; exact List.prefix_refl _⟩
        · by_cases hla : i = nOf first - 1
          · rw [hla, hesc.1] at hp
            exact hE2 (.inr hp)
          · cases first with
            | true =>
              have : nOf true = 64 := rfl
              omega
            | false =>
              have : nOf false = 65 := rfl
              obtain rfl : i = 63 := by omega
              rw [cI_end.1] at hp
              exact hend ⟨rfl, (hasPrefix_cs S).2 hp⟩
      have hno2 : ∀ i, i < nOf first → ¬ S <+: cI first i := by
        intro i hi hp
        by_cases h63 : i < 63
        · exact hnear ⟨i, h63, hp⟩
        · by_cases hla : i = nOf first - 1
          · rw [hla, hesc.1] at hp
            exact hE2 (.inl hp)
          · cases first with
            | true =>
              have : nOf true = 64 := rfl
              omega
            | false =>
              have : nOf false = 65 := rfl
              obtain rfl : i = 63 := by omega
              rw [cI_end.1] at hp
              exact hend2 ⟨rfl, hp⟩
      refine .err 7 (.inr rfl) (rd_no (by rw [hS]; exact hno1) (by rw [hS]; exact hno2)) ?_
      rw [hS, hG]
      unfold tabG
      rw [hf]
      have e1 : (tab first).any (nearB (cs S)) = false := by
        rw [List.any_eq_false]
        intro e he hnb
        obtain ⟨i, hi, rfl⟩ := eI_mem he
        unfold nearB at hnb
        rw [Bool.and_eq_true, decide_eq_true_eq, cs_len] at hnb
        rcases sameB_cs.1 hnb.1 with h | h
        · exact hnear ⟨i, hi, by rw [cI_eI hi]; exact h⟩
        · exact hno1 i (by omega) (by rw [cI_eI hi]; exact h)
      have e2 : (!first && sameB (cs S) [49, 48]) = false := by
        cases first with
        | true => rfl
        | false =>
          rw [endB_cs]
          cases h : sameB (cs S) (cs [true, false]) with
          | false => rfl
          | true =>
            rcases sameB_cs.1 h with h | h
            · exact absurd ⟨rfl, h⟩ hend2
            · exact absurd ⟨rfl, (hasPrefix_cs S).2 h⟩ hend
      simp only [e1, e2]
      rfl
end Cf
end Go.Proofs.YteigdcbaojmfgaaDoor
