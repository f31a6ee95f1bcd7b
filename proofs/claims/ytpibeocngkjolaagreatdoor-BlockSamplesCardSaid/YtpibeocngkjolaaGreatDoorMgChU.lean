/- The document's Get and the program's, plain: which code stands there. | The document's Get and the program's, plain: both come to the same. | The document's Get. | Blocks, plain: what pairs are got one behind the other, and where they stop. | What is put is got, plain. -/
import Derived.Test.YtpibeocngkjolaaGreatDoorMgCfG
import Derived.Test.YtpibeocngkjolaaGreatDoorMgCfZ
import Derived.Test.YtpibeocngkjolaaGreatDoorMgChF
import Derived.Test.YtpibeocngkjolaaGreatDoorMgChR
set_option linter.unusedVariables false
set_option linter.unusedSimpArgs false

namespace Go.Proofs.YtpibeocngkjolaaGreatDoor
open Go.RowKit
set_option linter.unusedSimpArgs false
set_option linter.unusedVariables false
namespace Cf
theorem cs_take (l : List Bool) (n : Nat) : (cs l).take n = cs (l.take n) := by simp [cs, List.map_take]
theorem cs_pre {a b : List Bool} : cs a <+: cs b ↔ a <+: b := by
  constructor
  · intro h
    have h1 := List.prefix_iff_eq_take.1 h
    rw [cs_len, cs_take] at h1
    rw [cs_inj h1]
    exact List.take_prefix _ _
  · rintro ⟨t, rfl⟩
    exact ⟨cs t, by simp [cs]⟩
theorem begB_cs {a b : List Bool} : begB (cs a) (cs b) = true ↔ b <+: a := (begB_iff _ _).trans cs_pre
theorem begB_no {a b : List Bool} : begB (cs a) (cs b) = false ↔ ¬ b <+: a := by rw [← begB_cs, Bool.not_eq_true]
theorem sameB_cs {a b : List Bool} : sameB (cs a) (cs b) = true ↔ a <+: b ∨ b <+: a := by
  constructor
  · intro h
    rcases Nat.le_total (cs b).length (cs a).length with hl | hl
    · exact .inr (cs_pre.1 (same_pre h hl))
    · rw [same_comm] at h
      exact .inl (cs_pre.1 (same_pre h hl))
  · rintro (h | h)
    · exact pre_same (cs_pre.2 h)
    · rw [same_comm]
      exact pre_same (cs_pre.2 h)
theorem seenL_len (F : Nat → Int) (q n : Nat) : (seenL F q n).length = n := by simp [seenL]
theorem seenL_take (F : Nat → Int) (q n k : Nat) : (seenL F q n).take k = seenL F q (min k n) := by
  unfold seenL
  rw [← List.map_take, List.take_range]
/-- the bits that both see. -/
def S20 (F : Nat → Int) (N q : Nat) : List Bool := seenL F q (min 20 (8 * N - q))
def S24 (F : Nat → Int) (N q : Nat) : List Bool := seenL F q (min 24 (8 * N - q))
theorem S20_take (F : Nat → Int) (N q : Nat) : (S24 F N q).take 20 = S20 F N q := by
  unfold S24 S20
  rw [seenL_take]
  congr 1
  omega
theorem S20_len (F : Nat → Int) (N q : Nat) : (S20 F N q).length = min 20 (8 * N - q) := seenL_len _ _ _
theorem S24_len (F : Nat → Int) (N q : Nat) : (S24 F N q).length = min 24 (8 * N - q) := seenL_len _ _ _
theorem pre_24 {F : Nat → Int} {N q : Nat} {c : List Bool} (h : c.length ≤ 19) : c <+: S24 F N q ↔ c <+: S20 F N q := by
  rw [← S20_take]
  constructor
  · intro hp
    exact List.prefix_take_iff.2 ⟨hp, by omega⟩
  · intro hp
    exact hp.trans (List.take_prefix _ _)
theorem near_24 {F : Nat → Int} {N q : Nat} {c : List Bool} (h : c.length ≤ 19) : S24 F N q <+: c ↔ S20 F N q <+: c := by
  by_cases hl : 8 * N - q ≤ 20
  · have e : S24 F N q = S20 F N q := by unfold S24 S20; rw [Nat.min_eq_right (by omega), Nat.min_eq_right hl]
    rw [e]
  · constructor
    · intro hp
      have := hp.length_le
      rw [S24_len] at this
      omega
    · intro hp
      have := hp.length_le
      rw [S20_len] at this
      omega
/-- code i. -/
def cI (first : Bool) (i : Nat) : List Bool := (cR first).getD i []
theorem cI_short : ∀ first, ∀ i, i < nOf first → (cI first i).length ≤ 19 := by decide +kernel
theorem cI_apart {first : Bool} {i j : Nat} (hi : i < nOf first) (hj : j < nOf first) (h : i ≠ j) : ¬ cI first j <+: cI first i := begB_no.1 (cR_apart first i hi j hj h)
/-- two codes that both begin a text, or one that begins it while it begins the other, are one. -/
theorem cI_one {first : Bool} {i j : Nat} {S : List Bool} (hi : i < nOf first) (hj : j < nOf first) (h1 : cI first i <+: S) (h2 : cI first j <+: S) : i = j := by
  by_cases h : i = j
  · exact h
  · rcases Nat.le_total (cI first i).length (cI first j).length with hl | hl
    · exact absurd (List.prefix_of_prefix_length_le h1 h2 hl) (cI_apart hj hi (Ne.symm h))
    · exact absurd (List.prefix_of_prefix_length_le h2 h1 hl) (cI_apart hi hj h)
theorem cI_near {first : Bool} {i j : Nat} {S : List Bool} (hi : i < nOf first) (hj : j < nOf first) (h1 : cI first i <+: S) (h2 : S <+: cI first j) : i = j := by
  by_cases h : i = j
  · exact h
  · exact absurd (h1.trans h2) (cI_apart hj hi (Ne.symm h))
def nI (first : Bool) (i : Nat) : Int := (nR first).getD i 0
def rdQ (first : Bool) (F : Nat → Int) (N q : Nat) : Int × Int × Int := tGet (nOf first) (cI first) (nI first) (cs (S24 F N q))
theorem rdT_Q {first : Bool} {F : Nat → Int} {N : Nat} {p : Int} (h : ¬ p < 0) : rdT first F N p = rdQ first F N p.toNat := by
  unfold rdT
  rw [if_neg h]
  rfl
theorem rd_find {first : Bool} {F : Nat → Int} {N q i : Nat} (hi : i < nOf first) (h : cI first i <+: S20 F N q) : (List.range (nOf first)).find? (fun j => begB (cs (S24 F N q)) (cs (cI first j))) = some i := by
  refine range_find (m := fun j => begB (cs (S24 F N q)) (cs (cI first j))) hi (fun j hj => ?_) ?_
  · refine begB_no.2 (fun hp => ?_)
    have := cI_one (Nat.lt_trans hj hi) hi ((pre_24 (cI_short first j (Nat.lt_trans hj hi))).1 hp) h
    omega
  · exact begB_cs.2 ((pre_24 (cI_short first i hi)).2 h)
theorem rd_none {first : Bool} {F : Nat → Int} {N q : Nat} (h : ∀ j, j < nOf first → ¬ cI first j <+: S20 F N q) : (List.range (nOf first)).find? (fun j => begB (cs (S24 F N q)) (cs (cI first j))) = none := by
  refine range_none (m := fun j => begB (cs (S24 F N q)) (cs (cI first j))) (fun j hj => ?_)
  exact begB_no.2 (fun hp => h j hj ((pre_24 (cI_short first j hj)).1 hp))
theorem rd_hit {first : Bool} {F : Nat → Int} {N q i : Nat} (hi : i < nOf first) (h : cI first i <+: S20 F N q) : rdQ first F N q = (nI first i, ((cI first i).length : Int), 0) := by
  have e := rd_find hi h
  unfold rdQ tGet
  rw [e]
theorem rd_near {first : Bool} {F : Nat → Int} {N q i : Nat} (hi : i < nOf first) (h : S20 F N q <+: cI first i) (hl : S20 F N q ≠ cI first i) : rdQ first F N q = (0, 0, 5) := by
  have e := rd_none (first := first) (F := F) (N := N) (q := q) (fun j hj hp => by
    have e := cI_near hj hi hp h
    subst e
    exact hl (h.eq_of_length_le hp.length_le))
  have e2 : (List.range (nOf first)).any (fun j => begB (cs (cI first j)) (cs (S24 F N q))) = true := range_any (m := fun j => begB (cs (cI first j)) (cs (S24 F N q))) hi (begB_cs.2 ((near_24 (cI_short first i hi)).2 h))
  unfold rdQ tGet
  rw [e, e2]
  rfl
theorem rd_no {first : Bool} {F : Nat → Int} {N q : Nat} (h1 : ∀ i, i < nOf first → ¬ cI first i <+: S20 F N q) (h2 : ∀ i, i < nOf first → ¬ S20 F N q <+: cI first i) : rdQ first F N q = (0, 0, 7) := by
  have e := rd_none h1
  have e2 : (List.range (nOf first)).any (fun j => begB (cs (cI first j)) (cs (S24 F N q))) = false := range_not (m := fun j => begB (cs (cI first j)) (cs (S24 F N q))) (fun j hj => begB_no.2 (fun hp => h2 j hj ((near_24 (cI_short first j hj)).1 hp)))
  unfold rdQ tGet
  rw [e, e2]
  rfl
theorem cI_tab : ∀ first, ∀ i, i < 63 → cI first i = ((tab first).getD i ⟨0, 0, []⟩).code ∧ nI first i = (i : Int) := by decide +kernel
theorem cI_esc : ∀ first, cI first (nOf first - 1) = escC ∧ nI first (nOf first - 1) = 1000 := by decide +kernel
theorem cI_end : cI false 63 = [true, false] ∧ nI false 63 = 1001 := by decide +kernel
theorem nOf_ge (first : Bool) : 64 ≤ nOf first := by cases first <;> decide
theorem escB_cs : escB = cs escC := rfl
theorem endB_cs : ([49, 48] : List UInt8) = cs [true, false] := rfl
end Cf
end Go.Proofs.YtpibeocngkjolaaGreatDoor

namespace Go.Proofs.YtpibeocngkjolaaGreatDoor
open Go.RowKit
set_option linter.unusedSimpArgs false
set_option linter.unusedVariables false
namespace Cf
def escV (x : Int) : G5 := if x % 256 = 0 ∨ x % 256 = 128 then gErr 10 else ⟨x / 256, if x % 256 > 128 then x % 256 - 256 else x % 256, false, 20, 0⟩
theorem numL_app : ∀ (a b : List Bool) (x : Nat), numL x (a ++ b) = numL (numL x a) b
  | [], _, _ => rfl
  | _ :: a, b, _ => numL_app a b _
theorem numL_lin (l : List Bool) (a : Nat) : numL a l = a * 2 ^ l.length + numL 0 l := numL_one l a
theorem rdV_numL (F : Nat → Int) (q : Nat) : ∀ n, rdV F q n = (numL 0 (seenL F q n) : Int)
  | 0 => rfl
  | n + 1 => by
    rw [rdV, rdV_numL F q n, seenL_snoc, numL_snoc]
    rcases bitI_01 F (q + n) with h | h <;> rw [h] <;> simp
theorem seenL_drop (F : Nat → Int) (q n k : Nat) : (seenL F q n).drop k = seenL F (q + k) (n - k) := by
  unfold seenL
  apply List.ext_getElem
  · simp
  · intro i h1 h2
    simp
    rw [Nat.add_assoc]
theorem seenL_split (F : Nat → Int) (q a b : Nat) : seenL F q (a + b) = seenL F q a ++ seenL F (q + a) b := by
  have h := List.take_append_drop a (seenL F q (a + b))
  rw [seenL_take, seenL_drop, Nat.min_eq_left (by omega), Nat.add_sub_cancel_left] at h
  exact h.symm
theorem escG_V (F : Nat → Int) (q : Nat) : escG (seenL F q 20) = escV (rdV F (q + 6) 14) := by
  have hl := seenL_len F q 20
  have e1 : (seenL F q 20).drop 12 = seenL F (q + 12) 8 := seenL_drop _ _ _ _
  have e2 : ((seenL F q 20).take 12).drop 6 = seenL F (q + 6) 6 := by rw [seenL_take, show min 12 20 = 12 from rfl, seenL_drop]
  have e3 : seenL F (q + 6) 14 = seenL F (q + 6) 6 ++ seenL F (q + 12) 8 := seenL_split F (q + 6) 6 8
  unfold escG
  have e4 : numL 0 (seenL F (q + 6) 6 ++ seenL F (q + 12) 8) = numL 0 (seenL F (q + 6) 6) * 2 ^ 8 + numL 0 (seenL F (q + 12) 8) := by rw [numL_app, numL_lin, seenL_len]
  rw [if_neg (by omega), rdV_numL, e3, e4]
  unfold lv8
  rw [e1, e2]
  have h8 := numL_bd (seenL F (q + 12) 8) 0 0 (by decide)
  rw [seenL_len] at h8
  have h82 : numL 0 (seenL F (q + 12) 8) < 256 := h8
  obtain ⟨m, hm⟩ : ∃ m, numL 0 (seenL F (q + 12) 8) = m := ⟨_, rfl⟩
  obtain ⟨r, hr⟩ : ∃ m, numL 0 (seenL F (q + 6) 6) = m := ⟨_, rfl⟩
  rw [hm, hr]
  rw [hm] at h82
  have ew : IntKind.i8.wrap (m : Int) = if 128 ≤ m then (m : Int) - 256 else m := by
    have e1 : ((2 : Int) ^ IntKind.i8.bits) = 256 := rfl
    have e2 : ((2 : Int) ^ (IntKind.i8.bits - 1)) = 128 := rfl
    have e3 : IntKind.i8.signed = true := rfl
    simp only [IntKind.wrap, e1, e2, e3, Bool.true_and, decide_eq_true_eq]
    split <;> split <;> omega
  rw [ew]
  unfold escV
  have x1 : ((r * 2 ^ 8 + m : Nat) : Int) % 256 = m := by omega
  have x2 : ((r * 2 ^ 8 + m : Nat) : Int) / 256 = r := by omega
  rw [x1, x2]
  by_cases h : 128 ≤ m
  · rw [if_pos h]
    by_cases h2 : m = 128
    · rw [if_pos (by omega), if_pos (by omega)]
    · rw [if_neg (by omega), if_neg (by omega), if_pos (by omega)]
  · rw [if_neg h]
    by_cases h2 : m = 0
    · rw [if_pos (by omega), if_pos (by omega)]
    · rw [if_neg (by omega), if_neg (by omega), if_neg (by omega)]
/-- entry i. -/
def eI (first : Bool) (i : Nat) : Ent := (tab first).getD i ⟨0, 0, []⟩
theorem eI_mem {first : Bool} {e : Ent} (h : e ∈ tab first) : ∃ i, i < 63 ∧ eI first i = e := by
  obtain ⟨i, hi, he⟩ := List.mem_iff_getElem.1 h
  have hl := tab_len first
  refine ⟨i, by omega, ?_⟩
  unfold eI
  rw [List.getD_eq_getElem?_getD, List.getElem?_eq_getElem hi, he]
  rfl
theorem mem_eI {first : Bool} {i : Nat} (h : i < 63) : eI first i ∈ tab first := by
  have hl := tab_len first
  unfold eI
  rw [List.getD_eq_getElem?_getD, List.getElem?_eq_getElem (by omega)]
  exact List.getElem_mem _
theorem cI_eI {first : Bool} {i : Nat} (h : i < 63) : cI first i = (eI first i).code := (cI_tab first i h).1
theorem hasPrefix_cs (S : List Bool) : Lib.hasPrefix (cs S) [49, 48] = true ↔ [true, false] <+: S := by
  rw [endB_cs]
  unfold Lib.hasPrefix
  rw [List.isPrefixOf_iff_prefix]
  exact cs_pre
inductive RC (first : Bool) (F : Nat → Int) (N q : Nat) : Prop
  | err (e : Int) (he : e = 5 ∨ e = 7) (h : rdQ first F N q = (0, 0, e)) (g : getB first (S20 F N q) = gErr e)
  | fin (hf : first = false) (h : rdQ first F N q = (1001, 2, 0)) (g : getB first (S20 F N q) = ⟨0, 0, true, 2, 0⟩)
  | esc (h : rdQ first F N q = (1000, 6, 0)) (hq : q + 6 ≤ 8 * N) (g : (8 * N < q + 20 ∧ getB first (S20 F N q) = gErr 5) ∨ (q + 20 ≤ 8 * N ∧ getB first (S20 F N q) = escV (rdV F (q + 6) 14)))
  | code (i n : Nat) (hi : i < 63) (hn : n = (eI first i).code.length) (h : rdQ first F N q = ((i : Int), (n : Int), 0)) (hq : q + n ≤ 8 * N) (g : (8 * N < q + n + 1 ∧ getB first (S20 F N q) = gErr 5) ∨ (q + n + 1 ≤ 8 * N ∧ getB first (S20 F N q) = ⟨(eI first i).run, if bitI F (q + n) = 1 then -((eI first i).lvl : Int) else (eI first i).lvl, false, (n : Int) + 1, 0⟩))
theorem eI_small {first : Bool} {i : Nat} (h : i < 63) : (eI first i).code.length ≤ 13 ∧ 1 ≤ (eI first i).code.length ∧ 1 ≤ (eI first i).lvl ∧ (eI first i).lvl ≤ 15 ∧ (eI first i).run ≤ 26 := tab_codes first _ (mem_eI h)
theorem tabG_near {first : Bool} {S : List Bool} {i : Nat} (hi : i < 63) (hn : (tab first).find? (hitB (cs S)) = none) (h : S <+: cI first i) : tabG first (cs S) = gErr 5 := by
  have e : (tab first).any (nearB (cs S)) = true := List.any_eq_true.2 ⟨eI first i, mem_eI hi, by
    unfold nearB
    rw [cI_eI hi] at h
    rw [sameB_cs.2 (.inl h), Bool.true_and, decide_eq_true_eq, cs_len]
    exact h.length_le⟩
  unfold tabG
  rw [hn, e, Bool.or_true]
  rfl
theorem rd_cases (first : Bool) (F : Nat → Int) (N q : Nat) (hq : q ≤ 8 * N) : RC first F N q := by
  obtain ⟨S, hS⟩ : ∃ S, S20 F N q = S := ⟨_, rfl⟩
  have hl : S.length = min 20 (8 * N - q) := by rw [← hS]; exact S20_len F N q
  have hge := nOf_ge first
  have hesc := cI_esc first
  by_cases hE : sameB (cs S) escB = true
  · have hG : getB first S = escG S := by unfold getB; rw [if_pos hE]
    rw [escB_cs, sameB_cs] at hE
    by_cases h : escC <+: S
    · have h6 := h.length_le
      have h6' : 6 ≤ S.length := h6
      have hh := rd_hit (first := first) (F := F) (N := N) (q := q) (i := nOf first - 1) (by omega) (by rw [hesc.1, hS]; exact h)
      rw [hesc.1, hesc.2] at hh
      refine .esc hh (by omega) ?_
      rw [hS, hG]
      by_cases h20 : q + 20 ≤ 8 * N
      · refine .inr ⟨h20, ?_⟩
        have e : S = seenL F q 20 := by rw [← hS]; unfold S20; rw [Nat.min_eq_left (by omega)]
        rw [e, escG_V]
      · refine .inl ⟨by omega, ?_⟩
        unfold escG
        rw [if_pos (by omega)]
    · have h2 := hE.resolve_right h
      have hne : S ≠ escC := fun e => h (e ▸ List.prefix_refl _)
      have hh := rd_near (first := first) (F := F) (N := N) (q := q) (i := nOf first - 1) (by omega) (by rw [hesc.1, hS]; exact h2) (by rw [hesc.1, hS]; exact hne)
      refine .err 5 (.inl rfl) hh ?_
      rw [hS, hG]
      unfold escG
      rw [if_pos (by have := h2.length_le; have h6 : escC.length = 6 := rfl; omega)]
  have hE2 : ¬ (S <+: escC ∨ escC <+: S) := fun h => hE (by rw [escB_cs]; exact sameB_cs.2 h)
  by_cases hend : first = false ∧ Lib.hasPrefix (cs S) [49, 48] = true
  · obtain ⟨rfl, hp⟩ := hend
    have hG : getB false S = ⟨0, 0, true, 2, 0⟩ := by unfold getB; rw [if_neg hE, if_pos ⟨rfl, hp⟩]
    have hh := rd_hit (first := false) (F := F) (N := N) (q := q) (i := 63) (by decide) (by rw [cI_end.1, hS]; exact (hasPrefix_cs S).1 hp)
    rw [cI_end.1, cI_end.2] at hh
    exact .fin rfl hh (by rw [hS, hG])
  have hG : getB first S = tabG first (cs S) := by unfold getB; rw [if_neg hE, if_neg hend]
  cases hf : (tab first).find? (hitB (cs S)) with
  | some e =>
    have hm := List.mem_of_find?_eq_some hf
    have hit := List.find?_some hf
    obtain ⟨i, hi, rfl⟩ := eI_mem hm
    unfold hitB at hit
    rw [Bool.and_eq_true, decide_eq_true_eq, cs_len] at hit
    have hp : (eI first i).code <+: S := by
      rcases sameB_cs.1 hit.1 with h | h
      · have := h.length_le; omega
      · exact h
    have hh := rd_hit (first := first) (F := F) (N := N) (q := q) (i := i) (by omega) (by rw [cI_eI hi, hS]; exact hp)
    rw [(cI_tab first i hi).2, cI_eI hi] at hh
    refine .code i _ hi rfl hh (by omega) (.inr ⟨by omega, ?_⟩)
    have hsm := eI_small (first := first) hi
    rw [hS, hG]
    unfold tabG
    rw [hf]
    have hx : (cs S).getD (eI first i).code.length 0 = bch (bitI F (q + (eI first i).code.length) == 1) := by
      rw [← hS]
      unfold S20 seenL cs
      rw [List.getD_eq_getElem?_getD]
      simp
      rw [List.getElem?_range (by omega)]
      rfl
    have hlv : lvS (cs S) (eI first i) = if bitI F (q + (eI first i).code.length) = 1 then -((eI first i).lvl : Int) else (eI first i).lvl := by
      unfold lvS
      rw [hx]
      rcases bitI_01 F (q + (eI first i).code.length) with h | h
      · rw [h]; rfl
      · rw [h, if_pos (show bch ((1 : Int) == 1) = 49 from rfl), if_pos rfl]
        exact w64 (by omega)
    simp only [hlv]
    congr 1
  | none =>
    by_cases hnear : ∃ i, i < 63 ∧ S <+: cI first i
    · obtain ⟨i, hi, hp⟩ := hnear
      have hT := tabG_near hi hf hp
      by_cases he : S = cI first i
      · have hsm := eI_small (first := first) hi
        have hh := rd_hit (first := first) (F := F) (N := N) (q := q) (i := i) (by omega) (by rw [hS, he]; exact List.prefix_refl _)
        rw [(cI_tab first i hi).2, cI_eI hi] at hh
        have hlen : S.length = (eI first i).code.length := by rw [he, cI_eI hi]
        exact .code i _ hi rfl hh (by omega) (.inl ⟨by omega, by rw [hS, hG, hT]⟩)
      · exact .err 5 (.inl rfl) (rd_near (i := i) (by omega) (by rw [hS]; exact hp) (by rw [hS]; exact he)) (by rw [hS, hG, hT])
    by_cases hend2 : first = false ∧ S <+: [true, false]
    · obtain ⟨rfl, hp⟩ := hend2
      have hne : S ≠ [true, false] := fun e => hend ⟨rfl, (hasPrefix_cs S).2 (e ▸ List.prefix_refl _)⟩
      refine .err 5 (.inl rfl) (rd_near (i := 63) (by decide) (by rw [hS, cI_end.1]; exact hp) (by rw [hS, cI_end.1]; exact hne)) ?_
      rw [hS, hG]
      unfold tabG
      rw [hf]
      have e : sameB (cs S) [49, 48] = true := by rw [endB_cs]; exact sameB_cs.2 (.inl hp)
      simp only [e]
      rfl
    · have hno1 : ∀ i, i < nOf first → ¬ cI first i <+: S := by
        intro i hi hp
        by_cases h63 : i < 63
        · have hm := mem_eI (first := first) h63
          rw [cI_eI h63] at hp
          by_cases hlt : (eI first i).code.length < S.length
          · have := List.find?_eq_none.1 hf _ hm
            unfold hitB at this
            rw [sameB_cs.2 (.inr hp), Bool.true_and, decide_eq_true_eq, cs_len] at this
            exact this hlt
          · have e := hp.eq_of_length_le (by omega)
            exact hnear ⟨i, h63, by rw [cI_eI h63, e]; exact List.prefix_refl _⟩
        · by_cases hla : i = nOf first - 1
          · rw [hla, hesc.1] at hp
            exact hE2 (.inr hp)
          · cases first with
            | true =>
              have : nOf true = 64 := rfl
              omega
            | false =>
              have : nOf false = 65 := rfl
              obtain rfl : i = 63 := by omega
              rw [cI_end.1] at hp
              exact hend ⟨rfl, (hasPrefix_cs S).2 hp⟩
      have hno2 : ∀ i, i < nOf first → ¬ S <+: cI first i := by
        intro i hi hp
        by_cases h63 : i < 63
        · exact hnear ⟨i, h63, hp⟩
        · by_cases hla : i = nOf first - 1
          · rw [hla, hesc.1] at hp
            exact hE2 (.inl hp)
          · cases first with
            | true =>
              have : nOf true = 64 := rfl
              omega
            | false =>
              have : nOf false = 65 := rfl
              obtain rfl : i = 63 := by omega
              rw [cI_end.1] at hp
              exact hend2 ⟨rfl, hp⟩
      refine .err 7 (.inr rfl) (rd_no (by rw [hS]; exact hno1) (by rw [hS]; exact hno2)) ?_
      rw [hS, hG]
      unfold tabG
      rw [hf]
      have e1 : (tab first).any (nearB (cs S)) = false := by
        rw [List.any_eq_false]
        intro e he hnb
        obtain ⟨i, hi, rfl⟩ := eI_mem he
        unfold nearB at hnb
        rw [Bool.and_eq_true, decide_eq_true_eq, cs_len] at hnb
        rcases sameB_cs.1 hnb.1 with h | h
        · exact hnear ⟨i, hi, by rw [cI_eI hi]; exact h⟩
        · exact hno1 i (by omega) (by rw [cI_eI hi]; exact h)
      have e2 : (!first && sameB (cs S) [49, 48]) = false := by
        cases first with
        | true => rfl
        | false =>
          rw [endB_cs]
          cases h : sameB (cs S) (cs [true, false]) with
          | false => rfl
          | true =>
            rcases sameB_cs.1 h with h | h
            · exact absurd ⟨rfl, h⟩ hend2
            · exact absurd ⟨rfl, (hasPrefix_cs S).2 h⟩ hend
      simp only [e1, e2]
      rfl
end Cf
end Go.Proofs.YtpibeocngkjolaaGreatDoor

namespace Go.Proofs.YtpibeocngkjolaaGreatDoor
open Go.RowKit
set_option linter.unusedSimpArgs false
set_option linter.unusedVariables false
namespace Cf
section
set_option maxRecDepth 100000
set_option maxHeartbeats 4000000
set_option linter.unusedVariables false
theorem rRead_no (v : Value) (N : Nat) (q n : Nat) (w : World) (hN : N ≤ 1000000) (hv : ∃ a c, v = .slice a N c) (hn : n ≤ 32) (hq : q ≤ 8 * N) (h : 8 * N < q + n) :
    Calls Tryz.prog 39 #[v, .int .i64 q, .int .i64 n] w fun e w' => e = .returned (.tuple #[.int .i64 0, .int .i64 5]) ∧ w = w' := by
  obtain ⟨a, c, rfl⟩ := hv
  have HC := Lib.hid (fun V => rCount_any a N c V hN)
  have p0 : ¬ (q : Int) < 0 := by omega
  have n0 : ¬ (n : Int) < 0 := by omega
  have n1 : ¬ (32 : Int) < (n : Int) := by omega
  have q1 : ¬ 8 * (N : Int) < (q : Int) := by omega
  have q2 : wrap64 (8 * (N : Int) - (q : Int)) = 8 * (N : Int) - (q : Int) := w64 (by omega)
  have q3 : 8 * (N : Int) - (q : Int) < (n : Int) := by omega
  go_enter Tryz.func39, Tryz.ntmps39
  go_wp2_with (go_at_call 64; refine (HC.out _).mono ?_; rintro e w1 ⟨rfl, rfl⟩)
  go_ret2
  exact ⟨rfl, rfl⟩
/-- the result's cells. -/
structure RG (B : Nat) (w : World) (r l : Int) (V : World) : Prop where
  p : V.heap[B]? = some (.cells #[.int .i64 r, .int .i64 l] 69 (0, 0))
  bel : Below B w V
theorem Two.base {B B' : Nat} {W : World} {v1 v2 : Value} {l : List Ent} (h : Two B W v1 v2 l) (hb : B' ≤ B) : Two B' W v1 v2 l := ⟨own_base h.p hb, own_base h.c hb⟩
theorem RG.below {B : Nat} {w V V' : World} {r l : Int} (h : RG B w r l V) (hb : Below V.heap.size V V') : RG B w r l V' :=
  ⟨(hb.block _ (Array.getElem?_eq_some_iff.1 h.p).1).trans h.p, h.bel.trans (hb.mono (Nat.le_of_lt (Array.getElem?_eq_some_iff.1 h.p).1))⟩
theorem RG.set {B : Nat} {w V : World} {r l : Int} (h : RG B w r l V) (r' l' : Int) : RG B w r' l' ((V.setCell ⟨B, 0, none⟩ (.int .i64 r')).setCell ⟨B, 1, none⟩ (.int .i64 l')) :=
  ⟨ob_set (ob_set h.p 0 (.int .i64 r')) 1 (.int .i64 l'), (h.bel.setCell (p := ⟨B, 0, none⟩) (Nat.le_refl _) (.int .i64 r')).setCell (p := ⟨B, 1, none⟩) (Nat.le_refl _) (.int .i64 l')⟩
theorem RG.new (w : World) : RG w.heap.size w 0 0 (w.alloc (.cells #[.int .i64 0, .int .i64 0] 69)) :=
  ⟨heap_alloc_new w _, (Below.refl _ _).alloc (Nat.le_refl _) _⟩
theorem RG.facts {B : Nat} {w V : World} {r l : Int} (h : RG B w r l V) : V.frozen? ⟨B, 0, none⟩ = false ∧ V.frozen? ⟨B, 1, none⟩ = false ∧ V.cell? ⟨B, 0, none⟩ = some (.int .i64 r) ∧ V.cell? ⟨B, 1, none⟩ = some (.int .i64 l) ∧ B < V.heap.size :=
  ⟨frozen_of_row h.p 0, frozen_of_row h.p 1, cell_row h.p (i := 0) rfl, cell_row h.p (i := 1) rfl, (Array.getElem?_eq_some_iff.1 h.p).1⟩
theorem results_rget {fn : Func} {p q s t : Tmp} (hr : fn.results = #[.cell p 69, .tmp q, .tmp s, .tmp t]) (tmps : Array Value) {B : Nat} {w V : World} {r l : Int} {en : Bool} {n e : Int}
    (hp : tmps.getD p undef = .pointer (some ⟨B, 0, none⟩)) (hq : tmps.getD q undef = .bool en) (hs : tmps.getD s undef = .int .i64 n) (ht : tmps.getD t undef = .int .i64 e) (h : RG B w r l V) :
    (results fn tmps).run Tryz.prog V = .ok (.tuple #[prV r l, .bool en, .int .i64 n, .int .i64 e]) V := by
  obtain ⟨_, _, c0, c1, _⟩ := h.facts
  have hp' : tmps[p]?.getD undef = .pointer (some ⟨B, 0, none⟩) := by simpa using hp
  have hq' : tmps[q]?.getD undef = .bool en := by simpa using hq
  have hs' : tmps[s]?.getD undef = .int .i64 n := by simpa using hs
  have ht' : tmps[t]?.getD undef = .int .i64 e := by simpa using ht
  unfold prV
  simp [results, hr, hp', hq', hs', ht', asAddr, loadVar, go_sem, c0, c1, Tryz.underlying69, Tryz.underlying3]
theorem rGet_err (v : Value) (p : Int) (first : Bool) (w : World) (x y e : Int) (h0 : e ≠ 0) (h : Hid (∀ W, Below w.heap.size w W → Calls Tryz.prog 66 #[v, .int .i64 p, .bool first] W (TGot W (x, y, e)))) :
    Calls Tryz.prog 41 #[v, .int .i64 p, .bool first] w fun en w' => en = .returned (gErr e).val ∧ Below w.heap.size w w' := by
  have G0 := Lib.hid (RG.new w)
  have h1 : (e == 0) = false := by rw [beq_eq_false_iff_ne]; exact h0
  have h2 : (e != 0) = true := by simp [h0]
  clear h0
  go_enter Tryz.func41, Tryz.ntmps41
  go_wp2_with (go_at_call 66; refine (h.out _ G0.out.bel).mono ?_; rintro e w1 ⟨rfl, hb⟩; have G1 := Lib.hid (G0.out.below hb); obtain ⟨f0, f1, c0, c1, l0⟩ := G1.out.facts; clear hb)
  have G2 := G1.out.set 0 0
  exact bodyPost_ret (results_rget rfl _ rfl rfl rfl rfl G2) rfl ⟨rfl, G2.bel⟩
theorem rGet_fin (v : Value) (p : Int) (first : Bool) (w : World) (h : Hid (∀ W, Below w.heap.size w W → Calls Tryz.prog 66 #[v, .int .i64 p, .bool first] W (TGot W (1001, 2, 0)))) :
    Calls Tryz.prog 41 #[v, .int .i64 p, .bool first] w fun en w' => en = .returned (G5.mk 0 0 true 2 0).val ∧ Below w.heap.size w w' := by
  have G0 := Lib.hid (RG.new w)
  go_enter Tryz.func41, Tryz.ntmps41
  go_wp2_with (go_at_call 66; refine (h.out _ G0.out.bel).mono ?_; rintro e w1 ⟨rfl, hb⟩; have G1 := Lib.hid (G0.out.below hb); obtain ⟨f0, f1, c0, c1, l0⟩ := G1.out.facts; clear hb)
  have G2 := G1.out.set 0 0
  exact bodyPost_ret (results_rget rfl _ rfl rfl rfl rfl G2) rfl ⟨rfl, G2.bel⟩
theorem rGet_esc0 (v : Value) (N : Nat) (F : Nat → Int) (q : Nat) (first : Bool) (w : World) (hN : N ≤ 1000000) (hv : ∃ a c, v = .slice a N c) (hq : q + 6 ≤ 8 * N) (h20 : 8 * N < q + 20) (h : Hid (∀ W, Below w.heap.size w W → Calls Tryz.prog 66 #[v, .int .i64 (q : Int), .bool first] W (TGot W (1000, 6, 0)))) :
    Calls Tryz.prog 41 #[v, .int .i64 (q : Int), .bool first] w fun en w' => en = .returned (gErr 5).val ∧ Below w.heap.size w w' := by
  have G0 := Lib.hid (RG.new w)
  have HR := Lib.hid (fun W => rRead_no v N (q + 6) 14 W hN hv (by decide) (by omega) (by omega))
  rw [Int.natCast_add] at HR
  have q0 : (q : Int) ≤ 8000000 := by omega
  have hw : wrap64 ((q : Int) + 6) = (q : Int) + 6 := w64 (by omega)
  clear hv hq h20
  go_enter Tryz.func41, Tryz.ntmps41
  go_wp2_with (first
    | (go_at_call 66; refine (h.out _ G0.out.bel).mono ?_; rintro e w1 ⟨rfl, hb⟩; have G1 := Lib.hid (G0.out.below hb); obtain ⟨f0, f1, c0, c1, l0⟩ := G1.out.facts; clear hb)
    | (go_at_call 39; refine (HR.out _).mono ?_; rintro e w2 ⟨rfl, rfl⟩))
  have G2 := G1.out.set 0 0
  exact bodyPost_ret (results_rget rfl _ rfl rfl rfl rfl G2) rfl ⟨rfl, G2.bel⟩
theorem rGet_esc1 (v : Value) (N : Nat) (F : Nat → Int) (q : Nat) (first : Bool) (w : World) (hN : N ≤ 1000000) (hs : Sl .u8 w v N F) (hb : ∀ j, j < N → 0 ≤ F j ∧ F j ≤ 255) (h20 : q + 20 ≤ 8 * N) (h : Hid (∀ W, Below w.heap.size w W → Calls Tryz.prog 66 #[v, .int .i64 (q : Int), .bool first] W (TGot W (1000, 6, 0)))) :
    Calls Tryz.prog 41 #[v, .int .i64 (q : Int), .bool first] w fun en w' => en = .returned (escV (rdV F (q + 6) 14)).val ∧ Below w.heap.size w w' := by
  have G0 := Lib.hid (RG.new w)
  have HR := Lib.hid (fun W (hW : Below w.heap.size w W) => rRead_ok v N F (q + 6) 14 W hN (hs.below hW) hb (by decide) (by omega))
  rw [Int.natCast_add] at HR
  have q0 : (q : Int) ≤ 8000000 := by omega
  have hw : wrap64 ((q : Int) + 6) = (q : Int) + 6 := w64 (by omega)
  have bd := rdV_bd F (q + 6) 14
  have bd2 : 0 ≤ rdV F (q + 6) 14 ∧ rdV F (q + 6) 14 < 16384 := bd
  obtain ⟨x, hx⟩ : ∃ x, rdV F (q + 6) 14 = x := ⟨_, rfl⟩
  rw [hx] at HR bd2 ⊢
  have em : Int.tmod x 256 = x % 256 := Int.tmod_eq_emod_of_nonneg bd2.1
  have ed : Int.tdiv x 256 = x / 256 := Int.tdiv_eq_ediv_of_nonneg bd2.1
  obtain ⟨m, hm⟩ : ∃ m, x % 256 = m := ⟨_, rfl⟩
  obtain ⟨r, hr⟩ : ∃ m, x / 256 = m := ⟨_, rfl⟩
  have hm2 : 0 ≤ m ∧ m < 256 := by omega
  have hr2 : 0 ≤ r ∧ r < 64 := by omega
  have x0 := bd2.1
  have x1 := bd2.2
  have m0 := hm2.1
  have m1 := hm2.2
  have r0 := hr2.1
  have r1 := hr2.2
  unfold escV
  rw [hm, hr]
  rw [hm] at em
  rw [hr] at ed
  clear hs hb h20 bd bd2 hx hm2 hr2
  by_cases h0 : m = 0 ∨ m = 128
  · rw [if_pos h0]
    rcases h0 with rfl | rfl
    · go_enter Tryz.func41, Tryz.ntmps41
      go_wp2_with (first
        | (go_at_call 66; refine (h.out _ G0.out.bel).mono ?_; rintro e w1 ⟨rfl, hb⟩; have G1 := Lib.hid (G0.out.below hb); obtain ⟨f0, f1, c0, c1, l0⟩ := G1.out.facts; clear hb)
        | (go_at_call 39; refine (HR.out _ G1.out.bel).mono ?_; rintro e w2 ⟨rfl, rfl⟩))
      have G2 := G1.out.set 0 0
      exact bodyPost_ret (results_rget rfl _ rfl rfl rfl rfl G2) rfl ⟨rfl, G2.bel⟩
    · go_enter Tryz.func41, Tryz.ntmps41
      go_wp2_with (first
        | (go_at_call 66; refine (h.out _ G0.out.bel).mono ?_; rintro e w1 ⟨rfl, hb⟩; have G1 := Lib.hid (G0.out.below hb); obtain ⟨f0, f1, c0, c1, l0⟩ := G1.out.facts; clear hb)
        | (go_at_call 39; refine (HR.out _ G1.out.bel).mono ?_; rintro e w2 ⟨rfl, rfl⟩))
      have G2 := G1.out.set 0 0
      exact bodyPost_ret (results_rget rfl _ rfl rfl rfl rfl G2) rfl ⟨rfl, G2.bel⟩
  · rw [if_neg h0]
    have y0 : (m == 0) = false := by simp; omega
    have y1 : (m == 128) = false := by simp; omega
    clear h0
    by_cases hg : m > 128
    · rw [if_pos hg]
      go_enter Tryz.func41, Tryz.ntmps41
      go_wp2_with (first
        | (go_at_call 66; refine (h.out _ G0.out.bel).mono ?_; rintro e w1 ⟨rfl, hb⟩; have G1 := Lib.hid (G0.out.below hb); obtain ⟨f0, f1, c0, c1, l0⟩ := G1.out.facts; clear hb)
        | (go_at_call 39; refine (HR.out _ G1.out.bel).mono ?_; rintro e w2 ⟨rfl, rfl⟩))
      have G2 := G1.out.set r (m - 256)
      exact bodyPost_ret (results_rget rfl _ rfl rfl rfl rfl G2) rfl ⟨rfl, G2.bel⟩
    · rw [if_neg hg]
      go_enter Tryz.func41, Tryz.ntmps41
      go_wp2_with (first
        | (go_at_call 66; refine (h.out _ G0.out.bel).mono ?_; rintro e w1 ⟨rfl, hb⟩; have G1 := Lib.hid (G0.out.below hb); obtain ⟨f0, f1, c0, c1, l0⟩ := G1.out.facts; clear hb)
        | (go_at_call 39; refine (HR.out _ G1.out.bel).mono ?_; rintro e w2 ⟨rfl, rfl⟩))
      have G2 := G1.out.set r m
      exact bodyPost_ret (results_rget rfl _ rfl rfl rfl rfl G2) rfl ⟨rfl, G2.bel⟩
theorem rGet_code0 (v : Value) (N : Nat) (i n q : Nat) (first : Bool) (w : World) (hN : N ≤ 1000000) (hi : i < 63) (hn : n ≤ 13) (hv : ∃ a c, v = .slice a N c) (hq : q + n ≤ 8 * N) (h1 : 8 * N < q + n + 1) (h : Hid (∀ W, Below w.heap.size w W → Calls Tryz.prog 66 #[v, .int .i64 (q : Int), .bool first] W (TGot W ((i : Int), (n : Int), 0)))) :
    Calls Tryz.prog 41 #[v, .int .i64 (q : Int), .bool first] w fun en w' => en = .returned (gErr 5).val ∧ Below w.heap.size w w' := by
  have G0 := Lib.hid (RG.new w)
  have HR := Lib.hid (fun W => rRead_no v N (q + n) 1 W hN hv (by decide) (by omega) (by omega))
  rw [Int.natCast_add] at HR
  have q0 : (q : Int) ≤ 8000000 := by omega
  have n0 : (n : Int) ≤ 13 := by omega
  have i1 : ((i : Int) == 1001) = false := by simp; omega
  have i2 : ((i : Int) == 1000) = false := by simp; omega
  have hw : wrap64 ((q : Int) + (n : Int)) = (q : Int) + (n : Int) := w64 (by omega)
  clear hv hq h1
  go_enter Tryz.func41, Tryz.ntmps41
  go_wp2_with (first
    | (go_at_call 66; refine (h.out _ G0.out.bel).mono ?_; rintro e w1 ⟨rfl, hb⟩; have G1 := Lib.hid (G0.out.below hb); obtain ⟨f0, f1, c0, c1, l0⟩ := G1.out.facts; clear hb)
    | (go_at_call 39; refine (HR.out _).mono ?_; rintro e w2 ⟨rfl, rfl⟩))
  have G2 := G1.out.set 0 0
  exact bodyPost_ret (results_rget rfl _ rfl rfl rfl rfl G2) rfl ⟨rfl, G2.bel⟩
theorem rGet_code1 (v : Value) (N : Nat) (F : Nat → Int) (i n q : Nat) (first : Bool) (w : World) (hN : N ≤ 1000000) (hi : i < 63) (hn : n ≤ 13) (hs : Sl .u8 w v N F) (hb : ∀ j, j < N → 0 ≤ F j ∧ F j ≤ 255) (h1 : q + n + 1 ≤ 8 * N) (h : Hid (∀ W, Below w.heap.size w W → Calls Tryz.prog 66 #[v, .int .i64 (q : Int), .bool first] W (TGot W ((i : Int), (n : Int), 0)))) :
    Calls Tryz.prog 41 #[v, .int .i64 (q : Int), .bool first] w fun en w' => en = .returned (G5.mk (eI false i).run (if bitI F (q + n) = 1 then -((eI false i).lvl : Int) else (eI false i).lvl) false ((n : Int) + 1) 0).val ∧ Below w.heap.size w w' := by
  have G0 := Lib.hid (RG.new w)
  have HR := Lib.hid (fun W (hW : Below w.heap.size w W) => rRead_ok v N F (q + n) 1 W hN (hs.below hW) hb (by decide) (by omega))
  have erd : rdV F (q + n) 1 = bitI F (q + n) := by simp [rdV]
  rw [Int.natCast_add, erd] at HR
  have HC := Lib.hid (fun W => Coded_any W)
  have q0 : (q : Int) ≤ 8000000 := by omega
  have n0 : (n : Int) ≤ 13 := by omega
  have i1 : ((i : Int) == 1001) = false := by simp; omega
  have i2 : ((i : Int) == 1000) = false := by simp; omega
  have ii0 : (0 : Int) ≤ (i : Int) := by omega
  have ii1 : (i : Int) < 63 := by omega
  have hw : wrap64 ((q : Int) + (n : Int)) = (q : Int) + (n : Int) := w64 (by omega)
  have hsm := eI_small (first := false) hi
  obtain ⟨X, hX⟩ : ∃ X : Int, ((eI false i).run : Int) = X := ⟨_, rfl⟩
  obtain ⟨Y, hY⟩ : ∃ X : Int, ((eI false i).lvl : Int) = X := ⟨_, rfl⟩
  have y0 : 0 ≤ Y := by omega
  have y1 : Y ≤ 15 := by omega
  have HCC := Lib.hid (fun (W : World) (g1 c1 g2 c2 : Nat) (T : Two w.heap.size W (.slice (some ⟨g1, 0, none⟩) 63 c1) (.slice (some ⟨g2, 0, none⟩) 63 c2) (tab false)) => T.cells hi)
  have HEI : ((tab false).getD i ⟨0, 0, []⟩) = eI false i := rfl
  rw [HEI] at HCC
  rw [hX, hY] at HCC ⊢
  clear hs hb h1 erd hsm HEI hX hY
  have h01 := bitI_01 F (q + n)
  have ARM : True := trivial
  obtain ⟨b, hb⟩ : ∃ b, bitI F (q + n) = b := ⟨_, rfl⟩
  rw [hb] at HR h01 ⊢
  clear hb
  rcases h01 with rfl | rfl
  · rw [if_neg (by decide)]
    go_enter Tryz.func41, Tryz.ntmps41
    go_wp2_with (first
      | (go_at_call 66; refine (h.out _ G0.out.bel).mono ?_; rintro e w1 ⟨rfl, hb⟩; have G1 := Lib.hid (G0.out.below hb); obtain ⟨f0, f1, c0, c1, l0⟩ := G1.out.facts; clear hb)
      | (go_at_call 39; refine (HR.out _ G1.out.bel).mono ?_; rintro e w2 ⟨rfl, rfl⟩)
      | (go_at_call 67; refine (HC.out _).mono ?_; rintro e w3 ⟨g1, c1', g2, c2, rfl, hT, hB⟩; have G2 := Lib.hid (G1.out.below hB); have CC := HCC.out _ _ _ _ _ (hT.base (Nat.le_trans G1.out.bel.size (Nat.le_refl _))); have e0 := CC.1; have e1 := CC.2.1; obtain ⟨f0, f1, c0, c1, l0⟩ := G2.out.facts; clear CC hT hB))
    have G4 := (G2.out.set X Y).below ((Below.refl _ _).alloc (Nat.le_refl _) (.cells #[.int .i64 X, .int .i64 Y] 69))
    exact bodyPost_ret (results_rget rfl _ rfl rfl rfl rfl G4) rfl ⟨rfl, G4.bel⟩
  · rw [if_pos rfl]
    go_enter Tryz.func41, Tryz.ntmps41
    go_wp2_with (first
      | (go_at_call 66; refine (h.out _ G0.out.bel).mono ?_; rintro e w1 ⟨rfl, hb⟩; have G1 := Lib.hid (G0.out.below hb); obtain ⟨f0, f1, c0, c1, l0⟩ := G1.out.facts; clear hb)
      | (go_at_call 39; refine (HR.out _ G1.out.bel).mono ?_; rintro e w2 ⟨rfl, rfl⟩)
      | (go_at_call 67; refine (HC.out _).mono ?_; rintro e w3 ⟨g1, c1', g2, c2, rfl, hT, hB⟩; have G2 := Lib.hid (G1.out.below hB); have CC := HCC.out _ _ _ _ _ (hT.base (Nat.le_trans G1.out.bel.size (Nat.le_refl _))); have e0 := CC.1; have e1 := CC.2.1; obtain ⟨f0, f1, c0, c1, l0⟩ := G2.out.facts; clear CC hT hB))
    have G4 := (G2.out.set X (-Y)).below ((Below.refl _ _).alloc (Nat.le_refl _) (.cells #[.int .i64 X, .int .i64 (-Y)] 69))
    exact bodyPost_ret (results_rget rfl _ rfl rfl rfl rfl G4) rfl ⟨rfl, G4.bel⟩
theorem eI_code1 : ∀ first, ∀ i, i < 63 → (eI first i).run = (eI false i).run ∧ (eI first i).lvl = (eI false i).lvl := by decide +kernel
theorem rGet_any (v : Value) (N : Nat) (F : Nat → Int) (p : Int) (first : Bool) (w : World) (hN : N ≤ 1000000) (hs : Sl .u8 w v N F) (hb : ∀ j, j < N → 0 ≤ F j ∧ F j ≤ 255) (hp : p ≤ 9223372036854775807) :
    Calls Tryz.prog 41 #[v, .int .i64 p, .bool first] w fun e w' => e = .returned (getF F N p first).val ∧ Below w.heap.size w w' := by
  have hv : ∃ a c, v = .slice a N c := by obtain ⟨a, c, rfl, _⟩ := hs; exact ⟨a, c, rfl⟩
  have HR : Hid (∀ W, Below w.heap.size w W → Calls Tryz.prog 66 #[v, .int .i64 p, .bool first] W (TGot W (rdT first F N p))) := Lib.hid fun W hW => read_any v N F p first W hN (hs.below hW) hb hp
  by_cases h0 : p < 0
  · have e1 : rdT first F N p = (0, 0, 3) := by unfold rdT; rw [if_pos h0]
    have e2 : getF F N p first = gErr 3 := by unfold getF; rw [if_pos h0]
    rw [e1] at HR
    rw [e2]
    exact rGet_err v p first w 0 0 3 (by decide) HR
  obtain ⟨q, rfl⟩ : ∃ q : Nat, p = (q : Int) := ⟨p.toNat, by omega⟩
  have e1 := rdT_Q (first := first) (F := F) (N := N) h0
  rw [Int.toNat_natCast] at e1
  rw [e1] at HR
  by_cases h1 : 8 * (N : Int) < (q : Int)
  · have e2 : getF F N (q : Int) first = gErr 5 := by unfold getF; rw [if_neg h0, if_pos h1]
    have hS : S20 F N q = [] := by unfold S20; rw [show 8 * N - q = 0 by omega]; rfl
    have hsm := eI_small (first := first) (i := 0) (by decide)
    have e3 : rdQ first F N q = (0, 0, 5) := rd_near (i := 0) (by have := nOf_ge first; omega) (by rw [hS]; exact List.nil_prefix) (by
      rw [hS, cI_eI (by decide)]
      intro h
      rw [← h] at hsm
      simp at hsm)
    rw [e3] at HR
    rw [e2]
    exact rGet_err v _ first w 0 0 5 (by decide) HR
  have e2 : getF F N (q : Int) first = getB first (S20 F N q) := by unfold getF; rw [if_neg h0, if_neg h1]; rfl
  rw [e2]
  rcases rd_cases first F N q (by omega) with ⟨e, he, h, g⟩ | ⟨hf, h, g⟩ | ⟨h, hq, g⟩ | ⟨i, n, hi, hn, h, hq, g⟩
  · rw [h] at HR
    rw [g]
    exact rGet_err v _ first w 0 0 e (by omega) HR
  · rw [h] at HR
    rw [g]
    exact rGet_fin v _ first w HR
  · rw [h] at HR
    rcases g with ⟨h20, g⟩ | ⟨h20, g⟩
    · rw [g]
      exact rGet_esc0 v N F q first w hN hv hq h20 HR
    · rw [g]
      exact rGet_esc1 v N F q first w hN hs hb h20 HR
  · rw [h] at HR
    have hsm := eI_small (first := first) hi
    rcases g with ⟨h1, g⟩ | ⟨h1, g⟩
    · rw [g]
      exact rGet_code0 v N i n q first w hN hi (by omega) hv hq h1 HR
    · rw [g, (eI_code1 first i hi).1, (eI_code1 first i hi).2]
      exact rGet_code1 v N F i n q first w hN hi (by omega) hs hb h1 HR
end
end Cf
end Go.Proofs.YtpibeocngkjolaaGreatDoor

namespace Go.Proofs.YtpibeocngkjolaaGreatDoor
open Go.RowKit
set_option linter.unusedSimpArgs false
set_option linter.unusedVariables false
namespace Cf
theorem escG_en (L : List Bool) : (escG L).en = false := by
  unfold escG
  by_cases h : L.length < 20
  · rw [if_pos h]; rfl
  · rw [if_neg h]
    by_cases h2 : lv8 L = 0 ∨ lv8 L = -128
    · rw [if_pos h2]; rfl
    · rw [if_neg h2]
theorem tabG_en (first : Bool) (x : List UInt8) : (tabG first x).en = false := by
  unfold tabG
  cases (tab first).find? (hitB x) <;> rfl
theorem getB_en {first : Bool} {L : List Bool} (h : (getB first L).en = true) : first = false ∧ 2 ≤ L.length := by
  unfold getB at h
  by_cases he : sameB (cs L) escB = true
  · rw [if_pos he, escG_en] at h
    cases h
  · rw [if_neg he] at h
    by_cases hp : first = false ∧ Lib.hasPrefix (cs L) [49, 48] = true
    · refine ⟨hp.1, ?_⟩
      obtain ⟨z, hz⟩ := hasPrefix_ex hp.2
      have := congrArg List.length hz
      rw [cs_len] at this
      simp at this
      omega
    · rw [if_neg hp, tabG_en] at h
      cases h
structure GOk (N : Nat) (p : Int) (g : G5) : Prop where
  n2 : 2 ≤ g.n
  n20 : g.n ≤ 20
  fit : p + g.n ≤ 8 * (N : Int)
  r0 : 0 ≤ g.r
  r63 : g.r ≤ 63
  pr : g.en = false → g.l ≠ 0 ∧ -127 ≤ g.l ∧ g.l ≤ 127
  fi : g.en = true → g.r = 0 ∧ g.l = 0 ∧ g.n = 2
theorem getF_cases (F : Nat → Int) (N : Nat) (p : Int) (first : Bool) :
    (∃ e, getF F N p first = gErr e ∧ (e = 3 ∨ e = 5 ∨ e = 7 ∨ e = 10)) ∨ ((getF F N p first).e = 0 ∧ 0 ≤ p ∧ GOk N p (getF F N p first)) := by
  by_cases h0 : p < 0
  · exact .inl ⟨3, by unfold getF; rw [if_pos h0], .inl rfl⟩
  by_cases h1 : 8 * (N : Int) < p
  · exact .inl ⟨5, by unfold getF; rw [if_neg h0, if_pos h1], .inr (.inl rfl)⟩
  obtain ⟨q, rfl⟩ : ∃ q : Nat, p = (q : Int) := ⟨p.toNat, by omega⟩
  have e2 : getF F N (q : Int) first = getB first (S20 F N q) := by unfold getF; rw [if_neg h0, if_neg h1]; rfl
  rw [e2]
  rcases rd_cases first F N q (by omega) with ⟨e, he, h, g⟩ | ⟨hf, h, g⟩ | ⟨h, hq, g⟩ | ⟨i, n, hi, hn, h, hq, g⟩
  · rw [g]
    exact .inl ⟨e, rfl, by omega⟩
  · have h2 := (getB_en (first := first) (L := S20 F N q) (by rw [g])).2
    rw [S20_len] at h2
    rw [g]
    refine .inr ⟨rfl, by omega, ⟨?_, ?_, ?_, ?_, ?_, ?_, ?_⟩⟩ <;> dsimp only <;> first | omega | (intro h; cases h) | (intro h; exact ⟨rfl, rfl, rfl⟩)
  · rcases g with ⟨_, g⟩ | ⟨h20, g⟩
    · rw [g]; exact .inl ⟨5, rfl, by omega⟩
    · rw [g]
      have bd := rdV_bd F (q + 6) 14
      have bd2 : 0 ≤ rdV F (q + 6) 14 ∧ rdV F (q + 6) 14 < 16384 := bd
      obtain ⟨x, hx⟩ : ∃ x, rdV F (q + 6) 14 = x := ⟨_, rfl⟩
      rw [hx] at bd2 ⊢
      unfold escV
      by_cases h : x % 256 = 0 ∨ x % 256 = 128
      · rw [if_pos h]; exact .inl ⟨10, rfl, by omega⟩
      · rw [if_neg h]
        refine .inr ⟨rfl, by omega, ⟨?_, ?_, ?_, ?_, ?_, ?_, ?_⟩⟩ <;> dsimp only <;> first | omega | (intro h; cases h; done) | (intro _; split <;> omega)
  · rcases g with ⟨_, g⟩ | ⟨h1, g⟩
    · rw [g]; exact .inl ⟨5, rfl, by omega⟩
    · have hsm := eI_small (first := first) hi
      rw [g]
      obtain ⟨run, hr⟩ : ∃ x, (eI first i).run = x := ⟨_, rfl⟩
      obtain ⟨lvl, hl⟩ : ∃ x, (eI first i).lvl = x := ⟨_, rfl⟩
      rw [hr, hl] at hsm ⊢
      refine .inr ⟨rfl, by omega, ⟨?_, ?_, ?_, ?_, ?_, ?_, ?_⟩⟩ <;> dsimp only <;> first | omega | (intro h; cases h; done) | (intro _; split <;> omega)
end Cf
namespace Dk
open Cf
/-- the place of round k. -/
def gp (F : Nat → Int) (N : Nat) (fi : Bool) (p0 : Int) : Nat → Int
  | 0 => p0
  | k + 1 => gp F N fi p0 k + (getF F N (gp F N fi p0 k) (fi && decide (k = 0))).n
/-- what is got in round k. -/
def gg (F : Nat → Int) (N : Nat) (fi : Bool) (p0 : Int) (k : Nat) : G5 := getF F N (gp F N fi p0 k) (fi && decide (k = 0))
/-- the next place in the block. -/
def pl (F : Nat → Int) (N : Nat) (fi : Bool) (p0 : Int) : Nat → Int
  | 0 => if fi then 0 else 1
  | k + 1 => pl F N fi p0 k + (gg F N fi p0 k).r + 1
def okG (F : Nat → Int) (N : Nat) (fi : Bool) (p0 : Int) (k : Nat) : Prop := (gg F N fi p0 k).e = 0 ∧ (gg F N fi p0 k).en = false ∧ pl F N fi p0 k + (gg F N fi p0 k).r ≤ 63
def StopAt (F : Nat → Int) (N : Nat) (fi : Bool) (p0 : Int) (n : Nat) : Prop := (∀ j, j < n → okG F N fi p0 j) ∧ ¬ okG F N fi p0 n
/-- why there is no block. -/
def gE (F : Nat → Int) (N : Nat) (fi : Bool) (p0 : Int) (n : Nat) : Int := if (gg F N fi p0 n).e ≠ 0 then (gg F N fi p0 n).e else if (gg F N fi p0 n).en = true then 0 else 11
section
variable {F : Nat → Int} {N : Nat} {fi : Bool} {p0 : Int}
theorem gp_succ (k : Nat) : gp F N fi p0 (k + 1) = gp F N fi p0 k + (gg F N fi p0 k).n := rfl
theorem pl_succ (k : Nat) : pl F N fi p0 (k + 1) = pl F N fi p0 k + (gg F N fi p0 k).r + 1 := rfl
theorem StopAt.uniq {n m : Nat} (h : StopAt F N fi p0 n) (k : StopAt F N fi p0 m) : n = m := by
  rcases Nat.lt_trichotomy n m with h1 | h1 | h1
  · exact absurd (k.1 n h1) h.2
  · exact h1
  · exact absurd (h.1 m h1) k.2
theorem gg_cases (k : Nat) : (∃ e, gg F N fi p0 k = gErr e ∧ (e = 3 ∨ e = 5 ∨ e = 7 ∨ e = 10)) ∨ ((gg F N fi p0 k).e = 0 ∧ 0 ≤ gp F N fi p0 k ∧ GOk N (gp F N fi p0 k) (gg F N fi p0 k)) := getF_cases F N _ _
theorem okG.ok {k : Nat} (h : okG F N fi p0 k) : GOk N (gp F N fi p0 k) (gg F N fi p0 k) := by
  rcases gg_cases (F := F) (N := N) (fi := fi) (p0 := p0) k with ⟨e, h1, h2⟩ | h1
  · have := h.1
    rw [h1] at this
    have : e = 0 := this
    omega
  · exact h1.2.2
theorem pl_bd : ∀ n, (∀ j, j < n → okG F N fi p0 j) → (n : Int) ≤ pl F N fi p0 n ∧ pl F N fi p0 n ≤ 64
  | 0, _ => by unfold pl; split <;> omega
  | n + 1, h => by
    have ih := pl_bd n (fun j hj => h j (by omega))
    have hn := h n (by omega)
    have := hn.ok.r0
    have := hn.2.2
    rw [pl_succ]
    omega
theorem ok_le {n : Nat} (h : ∀ j, j < n → okG F N fi p0 j) : n ≤ 64 := by have := pl_bd n h; omega
theorem gp_bd : ∀ n, (∀ j, j < n → okG F N fi p0 j) → p0 + 2 * n ≤ gp F N fi p0 n ∧ gp F N fi p0 n ≤ p0 + 20 * n ∧ (0 < n → gp F N fi p0 n ≤ 8 * (N : Int) ∧ 0 ≤ p0)
  | 0, _ => ⟨by simp [gp], by simp [gp], fun h => by omega⟩
  | n + 1, h => by
    have ih := gp_bd n (fun j hj => h j (by omega))
    have hn := (h n (by omega)).ok
    have a1 := hn.n2
    have a2 := hn.n20
    have a3 := hn.fit
    rw [gp_succ]
    refine ⟨by omega, by omega, fun _ => ⟨by omega, ?_⟩⟩
    by_cases h0 : 0 < n
    · exact (ih.2.2 h0).2
    · obtain rfl : n = 0 := by omega
      rcases gg_cases (F := F) (N := N) (fi := fi) (p0 := p0) 0 with ⟨e, h1, h2⟩ | h1
      · have := (h 0 (by omega)).1
        rw [h1] at this
        have : e = 0 := this
        omega
      · exact h1.2.1
theorem stop_ex : ∃ n, StopAt F N fi p0 n := by
  have h : ∃ n, ¬ okG F N fi p0 n := by
    refine Classical.byContradiction fun h => ?_
    have : ∀ n, okG F N fi p0 n := fun n => Classical.byContradiction fun hn => h ⟨n, hn⟩
    have := ok_le (n := 65) (fun j _ => this j)
    omega
  have key : ∀ n, ¬ okG F N fi p0 n → ∃ m, StopAt F N fi p0 m := by
    intro n
    induction n using Nat.strongRecOn with
    | _ n ih =>
      intro hn
      by_cases h2 : ∃ j, j < n ∧ ¬ okG F N fi p0 j
      · obtain ⟨j, hj, hj2⟩ := h2
        exact ih j hj hj2
      · exact ⟨n, fun j hj => Classical.byContradiction fun h3 => h2 ⟨j, hj, h3⟩, hn⟩
  obtain ⟨n, hn⟩ := h
  exact key n hn
theorem StopAt.end {n : Nat} (h : StopAt F N fi p0 n) (h0 : gE F N fi p0 n = 0) : (gg F N fi p0 n).e = 0 ∧ (gg F N fi p0 n).en = true := by
  unfold gE at h0
  by_cases h1 : (gg F N fi p0 n).e ≠ 0
  · rw [if_pos h1] at h0; exact absurd h0 h1
  · rw [if_neg h1] at h0
    by_cases h2 : (gg F N fi p0 n).en = true
    · exact ⟨by omega, h2⟩
    · rw [if_neg h2] at h0; cases h0
end
/-- the first code's error, and the code. -/
def hE (F : Nat → Int) (N : Nat) (p : Int) (intra : Bool) : Int := if p < 0 then 3 else if 8 * (N : Int) < p then 5 else if intra = false then 0 else if 8 * (N : Int) < p + 8 then 5 else if rdV F p.toNat 8 = 0 ∨ rdV F p.toNat 8 = 128 then 10 else 0
def hD (F : Nat → Int) (p : Int) (intra : Bool) : Int := if intra then rdV F p.toNat 8 else 0
def hP (p : Int) (intra : Bool) : Int := if intra then p + 8 else p
/-- what a block is got to: cause, code, pairs, bits. -/
def GB (F : Nat → Int) (N : Nat) (p : Int) (intra : Bool) (E dc : Int) (n : Nat) (b : Int) : Prop :=
  (hE F N p intra ≠ 0 ∧ E = hE F N p intra ∧ dc = 0 ∧ n = 0 ∧ b = 0) ∨ (hE F N p intra = 0 ∧ ∃ s, StopAt F N (!intra) (hP p intra) s ∧
    ((gE F N (!intra) (hP p intra) s ≠ 0 ∧ E = gE F N (!intra) (hP p intra) s ∧ dc = 0 ∧ n = 0 ∧ b = 0) ∨ (gE F N (!intra) (hP p intra) s = 0 ∧ E = 0 ∧ dc = hD F p intra ∧ n = s ∧ b = gp F N (!intra) (hP p intra) (s + 1) - p)))
theorem GB.uniq {F : Nat → Int} {N : Nat} {p : Int} {intra : Bool} {E dc E' dc' : Int} {n n' : Nat} {b b' : Int} (h : GB F N p intra E dc n b) (k : GB F N p intra E' dc' n' b') : E = E' ∧ dc = dc' ∧ n = n' ∧ b = b' := by
  rcases h with ⟨h0, rfl, rfl, rfl, rfl⟩ | ⟨h0, s, hs, h⟩
  · rcases k with ⟨k0, rfl, rfl, rfl, rfl⟩ | ⟨k0, _⟩
    · exact ⟨rfl, rfl, rfl, rfl⟩
    · exact absurd k0 h0
  · rcases k with ⟨k0, _⟩ | ⟨k0, s', ks, k⟩
    · exact absurd h0 k0
    · obtain rfl := hs.uniq ks
      rcases h with ⟨h1, rfl, rfl, rfl, rfl⟩ | ⟨h1, rfl, rfl, rfl, rfl⟩ <;> rcases k with ⟨k1, rfl, rfl, rfl, rfl⟩ | ⟨k1, rfl, rfl, rfl, rfl⟩
      · exact ⟨rfl, rfl, rfl, rfl⟩
      · exact absurd k1 h1
      · exact absurd h1 k1
      · exact ⟨rfl, rfl, rfl, rfl⟩
end Dk
end Go.Proofs.YtpibeocngkjolaaGreatDoor

namespace Go.Proofs.YtpibeocngkjolaaGreatDoor
open Go.RowKit
set_option linter.unusedSimpArgs false
set_option linter.unusedVariables false
namespace Cf
/-- a pair's code. -/
def putB (first : Bool) (r l : Int) : List Bool := match (tab first).find? (isE r l) with
  | some e => e.code ++ [decide (l < 0)]
  | none => escL r l
theorem escL_len (r l : Int) : (escL r l).length = 20 := by simp [escL, bitsL_len]
theorem not_esc {first : Bool} {i : Nat} {S : List Bool} (hi : i < nOf first - 1) (h : cI first i <+: S) : ¬ sameB (cs S) escB = true := by
  have hesc := cI_esc first
  rw [escB_cs, sameB_cs, ← hesc.1]
  rintro (h2 | h2)
  · have := cI_near (first := first) (by omega) (by omega) h h2
    omega
  · have := cI_one (first := first) (by omega) (by omega) h h2
    omega
theorem fin_got {S : List Bool} (h : [true, false] <+: S) : getB false S = ⟨0, 0, true, 2, 0⟩ := by
  unfold getB
  rw [if_neg (not_esc (first := false) (i := 63) (by decide) (by rw [cI_end.1]; exact h)), if_pos ⟨rfl, (hasPrefix_cs S).2 h⟩]
theorem code_got {first : Bool} {i : Nat} {b : Bool} {S : List Bool} {e : Ent} (hi : i < 63) (he : eI first i = e) (h : e.code ++ [b] <+: S) :
    getB first S = ⟨e.run, if b then -(e.lvl : Int) else e.lvl, false, ((e.code.length + 1 : Nat) : Int), 0⟩ := by
  have hge := nOf_ge first
  have hc : e.code <+: S := (List.prefix_append _ _).trans h
  have hlt : e.code.length < S.length := by have := h.length_le; simp at this; omega
  have hsm := eI_small (first := first) hi
  rw [he] at hsm
  have hcI : cI first i = e.code := by rw [cI_eI hi, he]
  have hme : e ∈ tab first := by rw [← he]; exact mem_eI hi
  have hend : ¬ (first = false ∧ Lib.hasPrefix (cs S) [49, 48] = true) := by
    rintro ⟨rfl, hp⟩
    have := cI_one (first := false) (i := i) (j := 63) (by omega) (by decide) (by rw [hcI]; exact hc) (by rw [cI_end.1]; exact (hasPrefix_cs S).1 hp)
    omega
  unfold getB
  rw [if_neg (not_esc (first := first) (i := i) (by omega) (by rw [hcI]; exact hc)), if_neg hend]
  have hit : hitB (cs S) e = true := by
    unfold hitB
    rw [sameB_cs.2 (.inr hc), Bool.true_and, decide_eq_true_eq, cs_len]
    exact hlt
  have hf : (tab first).find? (hitB (cs S)) = some e := by
    cases hf : (tab first).find? (hitB (cs S)) with
    | none => exact absurd hit (List.find?_eq_none.1 hf _ hme)
    | some e' =>
      obtain ⟨j, hj, hje⟩ := eI_mem (List.mem_of_find?_eq_some hf)
      have h2 := List.find?_some hf
      unfold hitB at h2
      rw [Bool.and_eq_true, decide_eq_true_eq, cs_len] at h2
      have hp : e'.code <+: S := by
        rcases sameB_cs.1 h2.1 with h3 | h3
        · have := h3.length_le; omega
        · exact h3
      have := cI_one (first := first) (i := i) (j := j) (by omega) (by omega) (by rw [hcI]; exact hc) (by rw [cI_eI hj, hje]; exact hp)
      rw [← hje, ← this, he]
  unfold tabG
  rw [hf]
  have hx : (cs S).getD e.code.length 0 = bch b := by
    obtain ⟨t, rfl⟩ := h
    simp [cs, List.getD_eq_getElem?_getD]
  have hlv : lvS (cs S) e = if b then -(e.lvl : Int) else e.lvl := by
    unfold lvS
    rw [hx]
    cases b
    · rw [if_neg (by decide), if_neg (by decide)]
    · rw [if_pos (by decide), if_pos rfl]
      exact w64 (by omega)
  simp only [hlv]
theorem esc_got {first : Bool} {r l : Int} {S : List Bool} (hp : pairB r l = true) (hS : S.length ≤ 20) (h : escL r l <+: S) : getB first S = ⟨r, l, false, 20, 0⟩ := by
  have hr : 0 ≤ r ∧ r ≤ 63 ∧ -127 ≤ l ∧ l ≤ 127 ∧ l ≠ 0 := by simpa [pairB] using hp
  have he := h.eq_of_length_le (by rw [escL_len]; exact hS)
  subst he
  have hc : escC <+: escL r l := ⟨bitsL 6 r.toNat ++ bitsL 8 (l % 256).toNat, by simp [escL, escC]⟩
  unfold getB
  rw [if_pos (by rw [escB_cs]; exact sameB_cs.2 (.inr hc))]
  unfold escG
  rw [if_neg (by rw [escL_len]; decide)]
  have e1 : (escL r l).drop 12 = bitsL 8 (l % 256).toNat := by
    unfold escL
    rw [List.drop_left' (by simp [bitsL_len])]
  have e2 : ((escL r l).take 12).drop 6 = bitsL 6 r.toNat := by
    unfold escL
    rw [List.take_left' (by simp [bitsL_len])]
    rfl
  unfold lv8
  rw [e1, e2, numL_bitsL, numL_bitsL]
  have x1 : (((l % 256).toNat % 2 ^ 8 : Nat) : Int) = l % 256 := by omega
  have x2 : ((r.toNat % 2 ^ 6 : Nat) : Int) = r := by omega
  rw [x1, x2]
  have ew : IntKind.i8.wrap (l % 256) = l := by
    have e1 : ((2 : Int) ^ IntKind.i8.bits) = 256 := rfl
    have e2 : ((2 : Int) ^ (IntKind.i8.bits - 1)) = 128 := rfl
    have e3 : IntKind.i8.signed = true := rfl
    simp only [IntKind.wrap, e1, e2, e3, Bool.true_and, decide_eq_true_eq]
    split <;> omega
  rw [ew, if_neg (by omega)]
theorem isE_pair {r l : Int} {e : Ent} (hp : pairB r l = true) (h : isE r l e = true) : (e.run : Int) = r ∧ ((e.lvl : Int) = l ∨ (e.lvl : Int) = -l) := by
  have hr : 0 ≤ r ∧ r ≤ 63 ∧ -127 ≤ l ∧ l ≤ 127 ∧ l ≠ 0 := by simpa [pairB] using hp
  unfold isE at h
  simp only [Bool.and_eq_true, Bool.or_eq_true, decide_eq_true_eq] at h
  rw [w64 (by omega)] at h
  exact h
theorem put_got {first : Bool} {r l : Int} {S : List Bool} (hp : pairB r l = true) (hS : S.length ≤ 20) (h : putB first r l <+: S) : getB first S = ⟨r, l, false, ((putB first r l).length : Nat), 0⟩ := by
  unfold putB at h ⊢
  cases hf : (tab first).find? (isE r l) with
  | none =>
    rw [hf] at h
    rw [esc_got hp hS h]
    simp [escL_len]
  | some e =>
    rw [hf] at h
    obtain ⟨i, hi, he⟩ := eI_mem (List.mem_of_find?_eq_some hf)
    obtain ⟨h1, h2⟩ := isE_pair hp (List.find?_some hf)
    have hsm := tab_codes first _ (List.mem_of_find?_eq_some hf)
    have h3 : e.code ++ [decide (l < 0)] <+: S := h
    rw [code_got hi he h3, h1]
    have el : (if decide (l < 0) then -(e.lvl : Int) else e.lvl) = l := by
      by_cases h0 : l < 0
      · rw [decide_eq_true h0, if_pos rfl]; omega
      · rw [decide_eq_false h0, if_neg (by decide)]; omega
    rw [el]
    simp
theorem putL_cs (first : Bool) (r l : Int) : putL first r l = cs (putB first r l) := by
  unfold putL putB shortL shortX
  cases hf : (tab first).find? (isE r l) with
  | none => rfl
  | some e =>
    have hsm := tab_codes first _ (List.mem_of_find?_eq_some hf)
    have hne : cs e.code ≠ [] := fun h => by
      have := congrArg List.length h
      rw [cs_len] at this
      simp at this
      rw [this] at hsm
      simp at hsm
    simp only [if_neg hne]
    by_cases h0 : l < 0
    · rw [if_pos h0, decide_eq_true h0]; simp [cs, bch]
    · rw [if_neg h0, decide_eq_false h0]; simp [cs, bch]
theorem put_len (first : Bool) (r l : Int) : 2 ≤ (putB first r l).length ∧ (putB first r l).length ≤ 20 := by
  unfold putB
  cases hf : (tab first).find? (isE r l) with
  | none => simp [escL_len]
  | some e =>
    have hsm := tab_codes first _ (List.mem_of_find?_eq_some hf)
    simp
    omega
theorem isE_none (first : Bool) (r l : Int) : (tab first).find? (isE r l) = none ↔ shortL false r l = [] := by
  have e : shortL first r l = [] ↔ shortL false r l = [] := by
    cases first with
    | false => exact Iff.rfl
    | true =>
      rw [shortL_true]
      unfold fixL
      split
      · rename_i h; rw [h]; simp
      · exact Iff.rfl
  rw [← e]
  unfold shortL shortX
  cases hf : (tab first).find? (isE r l) with
  | none => simp
  | some e =>
    have hsm := tab_codes first _ (List.mem_of_find?_eq_some hf)
    simp [cs]
    intro h
    rw [h] at hsm
    simp at hsm
theorem put_short (first : Bool) (r l : Int) (h : shortL false r l ≠ []) : (putB first r l).length ≤ 14 := by
  unfold putB
  cases hf : (tab first).find? (isE r l) with
  | none => exact absurd ((isE_none first r l).1 hf) h
  | some e =>
    have hsm := tab_codes first _ (List.mem_of_find?_eq_some hf)
    simp
    omega
theorem put_esc (first : Bool) (r l : Int) (h : shortL false r l = []) : putB first r l = escL r l := by
  unfold putB
  rw [(isE_none first r l).2 h]
theorem tab_ones : ∀ first, ∀ e ∈ tab first, (e.code.take 9).any id = true := by decide +kernel
theorem esc_ones (r l : Int) : ((escL r l).take 9).any id = true := by
  unfold escL
  rw [List.append_assoc]
  generalize bitsL 6 r.toNat ++ bitsL 8 (l % 256).toNat = t
  simp
theorem put_ones (first : Bool) (r l : Int) : ((putB first r l).take 9).any id = true := by
  unfold putB
  cases hf : (tab first).find? (isE r l) with
  | none => exact esc_ones r l
  | some e =>
    have h := tab_ones first _ (List.mem_of_find?_eq_some hf)
    rw [List.take_append, List.any_append, h, Bool.true_or]
/-- no code begins another one. -/
theorem put_apart (first : Bool) {r l r' l' : Int} (hp : pairB r l = true) (hq : pairB r' l' = true) : sameB (cs (putB first r l)) (cs (putB first r' l')) = true ↔ (r = r' ∧ l = l') := by
  constructor
  · intro h
    have key : ∀ {r l r' l' : Int}, pairB r l = true → pairB r' l' = true → putB first r l <+: putB first r' l' → r = r' ∧ l = l' := by
      intro r l r' l' hp hq h
      have h1 := put_got hp (put_len first r' l').2 h
      have h2 := put_got hq (put_len first r' l').2 (List.prefix_refl _)
      rw [h1] at h2
      exact ⟨congrArg G5.r h2, congrArg G5.l h2⟩
    rcases sameB_cs.1 h with h | h
    · exact key hp hq h
    · obtain ⟨a, b⟩ := key hq hp h
      exact ⟨a.symm, b.symm⟩
  · rintro ⟨rfl, rfl⟩
    exact sameB_cs.2 (.inl (List.prefix_refl _))
theorem put_apart_esc (first : Bool) {r l r' l' : Int} (hp : pairB r l = true) (hq : pairB r' l' = true) (h : sameB (cs (putB first r l)) (cs (escL r' l')) = true) : putB first r l = escL r' l' := by
  rcases sameB_cs.1 h with h | h
  · have h1 := put_got hp (by rw [escL_len]; exact Nat.le_refl _) h
    have h2 := esc_got (first := first) hq (by rw [escL_len]; exact Nat.le_refl _) (List.prefix_refl _)
    rw [h1] at h2
    have h3 : (((putB first r l).length : Nat) : Int) = 20 := congrArg G5.n h2
    exact h.eq_of_length_le (by rw [escL_len]; omega)
  · exact (h.eq_of_length_le (by rw [escL_len]; exact (put_len first r l).2)).symm
theorem put_not_end {r l : Int} (hp : pairB r l = true) : ¬ [true, false] <+: putB false r l := by
  intro h
  have h1 := put_got hp (put_len false r l).2 (List.prefix_refl _)
  rw [fin_got h] at h1
  have h3 : true = false := congrArg G5.en h1
  cases h3
end Cf
end Go.Proofs.YtpibeocngkjolaaGreatDoor
