/- Blocks as bits, plain. | Blocks, plain: what is put is got; what is cut off is a beginning; what is got may be put. | block.Put. | The document's Put of a block. -/
import Derived.Test.YtpibeocngkjolaaGreatDoorMgChF
import Derived.Test.YtpibeocngkjolaaGreatDoorMgChU
import Derived.Test.YtpibeocngkjolaaGreatDoorMgCj2
import Derived.Test.YtpibeocngkjolaaGreatDoorMgDpR
import Derived.Test.YtpibeocngkjolaaGreatDoorMgDpW
import Derived.Test.YtpibeocngkjolaaGreatDoorShelf
set_option linter.unusedVariables false
set_option linter.unusedSimpArgs false

namespace Go.Proofs.YtpibeocngkjolaaGreatDoor
open Go.RowKit
set_option linter.unusedSimpArgs false
set_option linter.unusedVariables false
namespace Dk
open Cf Bk Sc
def dcL (dc : Int) (i : Bool) : List Bool := if i then bitsL 8 dc.toNat else []
/-- a block's bits. -/
def ptB (dc : Int) (n : Nat) (r l : Nat → Int) (i : Bool) : List Bool := dcL dc i ++ (TL (!i) r l n ++ [true, false])
theorem ok_sp {dc : Int} {n : Nat} {r l : Nat → Int} {i : Bool} (h : bE dc n r l i = 0) : spE (fst i) r l n = 0 := by
  have h2 := bE_sE h
  unfold sE at h2
  rwa [if_pos (by cases i <;> simp [fst])] at h2
theorem sp_at {f : Int} {n : Nat} {r l : Nat → Int} (h : spE f r l n = 0) {k : Nat} (hk : k ≤ n) : spE f r l k = 0 := by
  refine Classical.byContradiction fun hne => ?_
  have := spE_stay hne n hk
  rw [h] at this
  exact hne this.symm
theorem fst_01 (i : Bool) : fst i = 0 ∨ fst i = 1 := by cases i <;> simp [fst]
theorem ok_pair {dc : Int} {n : Nat} {r l : Nat → Int} {i : Bool} (h : bE dc n r l i = 0) {k : Nat} (hk : k < n) : pairB (r k) (l k) = true := by
  have h1 := ok_sp h
  obtain ⟨h2, h3, h4, h5, h6⟩ := spE_cases (sp_at h1 (k := k + 1) hk)
  have h7 := spA_bd (fst_01 i) k h2
  unfold lvl at h4
  have h4 := of_decide_eq_true h4
  unfold pairB
  exact decide_eq_true ⟨h5, by omega, h4.1, h4.2, h3⟩
theorem spA_ge {f : Int} {r l : Nat → Int} : ∀ n, spE f r l n = 0 → f + n ≤ spA f r n
  | 0, _ => by simp [spA]
  | n + 1, h => by
    obtain ⟨h2, _, _, h5, _⟩ := spE_cases h
    have := spA_ge n h2
    simp only [spA]
    omega
theorem ok_n {dc : Int} {n : Nat} {r l : Nat → Int} {i : Bool} (h : bE dc n r l i = 0) : n ≤ 64 := by
  have h1 := ok_sp h
  have h2 := spA_ge n h1
  have h3 := spA_bd (fst_01 i) n h1
  have h4 := fst_01 i
  omega
theorem ok_dc {dc : Int} {n : Nat} {r l : Nat → Int} (h : bE dc n r l true = 0) : 1 ≤ dc ∧ dc ≤ 255 ∧ dc ≠ 128 := by
  have h2 := bE_dE h
  unfold dE at h2
  rw [if_pos rfl] at h2
  by_cases h3 : dc < 1 ∨ 255 < dc ∨ dc = 128
  · rw [if_pos h3] at h2; cases h2
  · omega
theorem ok_not {dc : Int} {n : Nat} {r l : Nat → Int} (h : bE dc n r l false = 0) : dc = 0 ∧ n ≠ 0 := by
  have h2 := bE_dE h
  unfold dE at h2
  rw [if_neg (by decide)] at h2
  by_cases h3 : dc ≠ 0 ∨ n = 0
  · rw [if_pos h3] at h2; cases h2
  · omega
theorem dcL_len (dc : Int) (i : Bool) : (dcL dc i).length = if i then 8 else 0 := by cases i <;> simp [dcL, bitsL_len]
theorem ptB_len (dc : Int) (n : Nat) (r l : Nat → Int) (i : Bool) : 2 ≤ (ptB dc n r l i).length ∧ (ptB dc n r l i).length ≤ 10 + 20 * n := by
  have h1 := dcL_len dc i
  have h2 := TL_len (!i) r l n
  unfold ptB
  rw [List.length_append, List.length_append, h1, show ([true, false] : List Bool).length = 2 from rfl]
  by_cases h : i = true
  · rw [if_pos h]; omega
  · rw [if_neg h]; omega
/-- the first bits of a code, one by one. -/
theorem bits_take (x : Nat) : ∀ k, k < 8 → (bitsL 8 x).take (k + 1) = (bitsL 8 x).take k ++ [x / 2 ^ (7 - k) % 2 == 1] := by
  intro k hk
  have e : bitsL 8 x = [x / 2 / 2 / 2 / 2 / 2 / 2 / 2 % 2 == 1, x / 2 / 2 / 2 / 2 / 2 / 2 % 2 == 1, x / 2 / 2 / 2 / 2 / 2 % 2 == 1, x / 2 / 2 / 2 / 2 % 2 == 1, x / 2 / 2 / 2 % 2 == 1, x / 2 / 2 % 2 == 1, x / 2 % 2 == 1, x % 2 == 1] := rfl
  rw [e]
  rcases (by omega : k = 0 ∨ k = 1 ∨ k = 2 ∨ k = 3 ∨ k = 4 ∨ k = 5 ∨ k = 6 ∨ k = 7) with rfl | rfl | rfl | rfl | rfl | rfl | rfl | rfl <;> simp [Nat.div_div_eq_div_mul]
end Dk
end Go.Proofs.YtpibeocngkjolaaGreatDoor

namespace Go.Proofs.YtpibeocngkjolaaGreatDoor
open Go.RowKit
set_option linter.unusedSimpArgs false
set_option linter.unusedVariables false
namespace Dk
open Cf Bk Sc
theorem put_more {first : Bool} {r l : Int} {S : List Bool} (hp : pairB r l = true) (h : S <+: putB first r l) (hl : S.length < (putB first r l).length) : getB first S = gErr 5 := by
  have hlen := (put_len first r l).2
  have hge := nOf_ge first
  unfold getB
  by_cases hE : sameB (cs S) escB = true
  · rw [if_pos hE]
    unfold escG
    rw [if_pos (by omega)]
  rw [if_neg hE]
  by_cases hend : first = false ∧ Lib.hasPrefix (cs S) [49, 48] = true
  · obtain ⟨rfl, hp2⟩ := hend
    exact absurd (((hasPrefix_cs S).1 hp2).trans h) (put_not_end hp)
  rw [if_neg hend]
  have hE2 : ¬ (S <+: escC ∨ escC <+: S) := fun h => hE (by rw [escB_cs]; exact sameB_cs.2 h)
  unfold putB at h hl
  cases hf : (tab first).find? (isE r l) with
  | none =>
    rw [hf] at h
    have hc : escC <+: escL r l := ⟨bitsL 6 r.toNat ++ bitsL 8 (l % 256).toNat, by simp [escL, escC]⟩
    exact absurd (List.prefix_or_prefix_of_prefix h hc) hE2
  | some e =>
    rw [hf] at h hl
    obtain ⟨i, hi, he⟩ := eI_mem (List.mem_of_find?_eq_some hf)
    have h : S <+: e.code ++ [decide (l < 0)] := h
    have hl : S.length < (e.code ++ [decide (l < 0)]).length := hl
    have hl2 : S.length ≤ e.code.length := by simp at hl; omega
    have hS : S <+: e.code := List.prefix_of_prefix_length_le h (List.prefix_append _ _) hl2
    have hcI : cI first i = e.code := by rw [cI_eI hi, he]
    refine tabG_near hi ?_ (by rw [hcI]; exact hS)
    rw [List.find?_eq_none]
    intro e' hm hh
    obtain ⟨j, hj, hje⟩ := eI_mem hm
    unfold hitB at hh
    rw [Bool.and_eq_true, decide_eq_true_eq, cs_len] at hh
    have hp2 : e'.code <+: S := by
      rcases sameB_cs.1 hh.1 with h3 | h3
      · have := h3.length_le; omega
      · exact h3
    have hij := cI_one (first := first) (i := j) (j := i) (S := e.code) (by omega) (by omega) (by rw [cI_eI hj, hje]; exact hp2.trans hS) (by rw [hcI]; exact List.prefix_refl _)
    rw [hij, he] at hje
    rw [← hje] at hh
    have := hh.2
    omega
theorem fin_more {S : List Bool} (h : S <+: [true, false]) (hl : S.length < 2) : getB false S = gErr 5 := by
  match S, h, hl with
  | [], _, _ => decide +kernel
  | [a], h, _ =>
    obtain ⟨t, ht⟩ := h
    have : a = true := by simp at ht; exact ht.1
    subst this
    decide +kernel
section
variable {F : Nat → Int} {T : List Bool} (hF : ∀ i, i < T.length → bitI F i = b01 (T.getD i false))
include hF
theorem get_at {P N : Nat} {first : Bool} {r l : Int} (hp : pairB r l = true) (hat : putB first r l <+: T.drop P) (hN : P + (putB first r l).length ≤ 8 * N) : getF F N (P : Int) first = ⟨r, l, false, ((putB first r l).length : Nat), 0⟩ := by
  have hpl := put_len first r l
  unfold getF
  rw [if_neg (by omega), if_neg (by omega), Int.toNat_natCast]
  exact put_got hp (by rw [seenL_len]; unfold seenN; omega) (seen_at (K := 0) (L := T) hF hat (by unfold seenN; omega))
theorem fin_at {P N : Nat} (hat : [true, false] <+: T.drop P) (hN : P + 2 ≤ 8 * N) : getF F N (P : Int) false = ⟨0, 0, true, 2, 0⟩ := by
  unfold getF
  rw [if_neg (by omega), if_neg (by omega), Int.toNat_natCast]
  exact fin_got (seen_at (K := 0) (L := T) hF hat (by unfold seenN; simp only [List.length_cons, List.length_nil]; omega))
theorem cut_seen {P N : Nat} {c : List Bool} (hc : c.length ≤ 20) (hat : c <+: T.drop P) (hP : P ≤ 8 * N) (hN : 8 * N < P + c.length) : seenL F P (seenN N P) = c.take (8 * N - P) := by
  have e : seenN N P = 8 * N - P := by unfold seenN; omega
  rw [e]
  have h := seen_at (K := 0) (L := T) (n := 8 * N - P) hF ((List.take_prefix (8 * N - P) c).trans hat) (by rw [List.length_take]; omega)
  exact (h.eq_of_length (by rw [List.length_take, seenL_len]; omega)).symm
theorem more_at {P N : Nat} {first : Bool} {r l : Int} (hp : pairB r l = true) (hat : putB first r l <+: T.drop P) (hP : P ≤ 8 * N) (hN : 8 * N < P + (putB first r l).length) : getF F N (P : Int) first = gErr 5 := by
  unfold getF
  rw [if_neg (by omega), if_neg (by omega), Int.toNat_natCast, cut_seen hF (put_len first r l).2 hat hP hN]
  exact put_more hp (List.take_prefix _ _) (by rw [List.length_take]; omega)
theorem finmore_at {P N : Nat} (hat : [true, false] <+: T.drop P) (hP : P ≤ 8 * N) (hN : 8 * N < P + 2) : getF F N (P : Int) false = gErr 5 := by
  unfold getF
  rw [if_neg (by omega), if_neg (by omega), Int.toNat_natCast, cut_seen hF (by decide) hat hP hN]
  exact fin_more (List.take_prefix _ _) (by rw [List.length_take]; simp only [List.length_cons, List.length_nil]; omega)
end
theorem ptB_drop (dc : Int) (n : Nat) (r l : Nat → Int) (i : Bool) (x : Nat) : (ptB dc n r l i).drop ((dcL dc i).length + x) = (TL (!i) r l n ++ [true, false]).drop x := by
  unfold ptB
  rw [← List.drop_drop, List.drop_left' rfl]
section
variable {F : Nat → Int} {dc : Int} {n : Nat} {r l : Nat → Int} {i : Bool} (hF : ∀ j, j < (ptB dc n r l i).length → bitI F j = b01 ((ptB dc n r l i).getD j false)) (hbe : bE dc n r l i = 0)
theorem hP_len : hP 0 i = ((dcL dc i).length : Nat) := by
  rw [dcL_len]
  unfold hP
  cases i <;> rfl
include hF hbe
theorem run_at {N : Nat} : ∀ k, k ≤ n → (dcL dc i).length + (TL (!i) r l k).length ≤ 8 * N → gp F N (!i) (hP 0 i) k = ((dcL dc i).length + (TL (!i) r l k).length : Nat) ∧ ∀ j, j < k → gg F N (!i) (hP 0 i) j = ⟨r j, l j, false, ((piece (!i) r l j).length : Nat), 0⟩
  | 0, _, _ => ⟨by show hP 0 i = _; rw [hP_len (dc := dc)]; simp [TL], fun j hj => by omega⟩
  | k + 1, hk, hN => by
    have hl : (TL (!i) r l (k + 1)).length = (TL (!i) r l k).length + (piece (!i) r l k).length := by simp only [TL, List.length_append]
    obtain ⟨ih1, ih2⟩ := run_at (N := N) k (by omega) (by omega)
    have e : gg F N (!i) (hP 0 i) k = ⟨r k, l k, false, ((piece (!i) r l k).length : Nat), 0⟩ := by
      unfold gg
      rw [ih1]
      exact get_at hF (ok_pair hbe (by omega)) (by rw [ptB_drop]; exact TL_at (!i) r l [true, false] (by omega)) (by unfold piece at hl; omega)
    refine ⟨?_, fun j hj => ?_⟩
    · rw [gp_succ, e, ih1, hl]
      simp only
      omega
    · by_cases h : j = k
      · subst h; exact e
      · exact ih2 j (by omega)
omit hF hbe in
theorem pl_sp {N : Nat} : ∀ k, (∀ j, j < k → (gg F N (!i) (hP 0 i) j).r = r j) → pl F N (!i) (hP 0 i) k = spA (fst i) r k
  | 0, _ => by cases i <;> rfl
  | k + 1, h => by
    rw [pl_succ, pl_sp k (fun j hj => h j (by omega)), h k (by omega)]
    rfl
theorem run_ok {N k : Nat} (hk : k ≤ n) (hN : (dcL dc i).length + (TL (!i) r l k).length ≤ 8 * N) : ∀ j, j < k → okG F N (!i) (hP 0 i) j := fun j hj => by
  have h := (run_at hF hbe k hk hN).2
  have e := h j hj
  have hp := pl_sp (F := F) (N := N) (r := r) (i := i) j (fun m hm => by rw [h m (by omega)])
  unfold okG
  rw [e, hp]
  obtain ⟨_, _, _, _, h5⟩ := spE_cases (sp_at (ok_sp hbe) (k := j + 1) (by omega))
  exact ⟨rfl, rfl, by simp only; omega⟩
theorem code_at (hi : i = true) : rdV F 0 8 = dc := by
  subst hi
  have hd := ok_dc hbe
  have hl := ptB_len dc n r l true
  have e : bitsL 8 dc.toNat = seenL F 0 8 := by
    have hpre : bitsL 8 dc.toNat <+: (ptB dc n r l true).drop 0 := by
      rw [List.drop_zero]
      unfold ptB dcL
      rw [if_pos rfl]
      exact List.prefix_append _ _
    exact (seen_at (K := 0) (L := ptB dc n r l true) hF hpre (by rw [bitsL_len]; exact Nat.le_refl _)).eq_of_length (by rw [bitsL_len, seenL_len])
  rw [rdV_numL, ← e, numL_bitsL]
  omega
theorem hE_at {N : Nat} (hN : (dcL dc i).length ≤ 8 * N) : Dk.hE F N 0 i = 0 ∧ hD F 0 i = dc := by
  unfold Dk.hE hD
  cases hi : i with
  | false =>
    subst hi
    exact ⟨by rw [if_neg (by omega), if_neg (by omega), if_pos rfl], (ok_not hbe).1.symm⟩
  | true =>
    subst hi
    have hc := code_at hF hbe rfl
    have hd := ok_dc hbe
    rw [dcL_len, if_pos rfl] at hN
    refine ⟨?_, hc⟩
    rw [if_neg (by omega), if_neg (by omega), if_neg (by decide), if_neg (by omega), show (0 : Int).toNat = 0 from rfl, hc, if_neg (by omega)]
omit hF in
theorem no_first : (!i && decide (n = 0)) = false := by
  cases i with
  | true => rfl
  | false => rw [decide_eq_false (ok_not hbe).2]; rfl
/-- what is put is got. -/
theorem put_GB {N : Nat} (hN : (ptB dc n r l i).length ≤ 8 * N) : GB F N 0 i 0 dc n ((ptB dc n r l i).length : Nat) ∧ ∀ j, j < n → (gg F N (!i) (hP 0 i) j).r = r j ∧ (gg F N (!i) (hP 0 i) j).l = l j := by
  have hlen : (ptB dc n r l i).length = (dcL dc i).length + (TL (!i) r l n).length + 2 := by
    unfold ptB
    simp only [List.length_append, List.length_cons, List.length_nil]
    omega
  obtain ⟨h1, h2⟩ := run_at (N := N) hF hbe n (Nat.le_refl _) (by omega)
  obtain ⟨h3, h4⟩ := hE_at (N := N) hF hbe (by omega)
  have e : gg F N (!i) (hP 0 i) n = ⟨0, 0, true, 2, 0⟩ := by
    unfold gg
    rw [h1, no_first hbe]
    exact fin_at hF (by rw [ptB_drop, List.drop_left' rfl]; exact List.prefix_refl _) (by omega)
  have hr := run_ok (N := N) (k := n) hF hbe (Nat.le_refl _) (by omega)
  have hno : ¬ okG F N (!i) (hP 0 i) n := fun h => by
    have h5 := h.2.1
    rw [e] at h5
    exact absurd h5 (by decide)
  have hg0 : gE F N (!i) (hP 0 i) n = 0 := by
    unfold gE
    rw [e]
    rfl
  have hb : ((ptB dc n r l i).length : Int) = gp F N (!i) (hP 0 i) (n + 1) - 0 := by
    rw [gp_succ, e, h1, hlen]
    simp only
    omega
  exact ⟨.inr ⟨h3, n, ⟨hr, hno⟩, .inr ⟨hg0, rfl, h4.symm, rfl, hb⟩⟩, fun j hj => by rw [h2 j hj]; exact ⟨rfl, rfl⟩⟩
omit hF hbe in
theorem cut_ex {b N : Nat} (h : b ≤ N) (n : Nat) : ∃ k, k ≤ n ∧ b + (TL (!i) r l k).length ≤ N ∧ (k = n ∨ N < b + (TL (!i) r l (k + 1)).length) := by
  induction n with
  | zero => exact ⟨0, Nat.le_refl _, by simpa [TL] using h, .inl rfl⟩
  | succ n ih =>
    obtain ⟨k, h1, h2, h3⟩ := ih
    by_cases h5 : k = n
    · by_cases h4 : b + (TL (!i) r l (n + 1)).length ≤ N
      · exact ⟨n + 1, Nat.le_refl _, h4, .inl rfl⟩
      · exact ⟨k, by omega, h2, .inr (by rw [h5]; omega)⟩
    · exact ⟨k, by omega, h2, .inr (h3.resolve_left h5)⟩
/-- of bits that are cut off nothing is got. -/
theorem cut_GB {N : Nat} (hN : 8 * N < (ptB dc n r l i).length) : GB F N 0 i 5 0 0 0 := by
  have hlen : (ptB dc n r l i).length = (dcL dc i).length + (TL (!i) r l n).length + 2 := by
    unfold ptB
    simp only [List.length_append, List.length_cons, List.length_nil]
    omega
  by_cases hb : (dcL dc i).length ≤ 8 * N
  · obtain ⟨h3, h4⟩ := hE_at (N := N) hF hbe hb
    obtain ⟨k, hk, hk1, hk2⟩ := cut_ex (r := r) (l := l) (i := i) hb n
    obtain ⟨h1, h2⟩ := run_at (N := N) hF hbe k hk hk1
    have e : gg F N (!i) (hP 0 i) k = gErr 5 := by
      unfold gg
      rw [h1]
      by_cases h : k = n
      · subst h
        rw [no_first hbe]
        exact finmore_at hF (by rw [ptB_drop, List.drop_left' rfl]; exact List.prefix_refl _) hk1 (by omega)
      · have hl : (TL (!i) r l (k + 1)).length = (TL (!i) r l k).length + (piece (!i) r l k).length := by simp only [TL, List.length_append]
        have h5 := hk2.resolve_left h
        have hkn : k < n := by omega
        have hpk := ok_pair hbe hkn
        have hat : putB (!i && decide (k = 0)) (r k) (l k) <+: (ptB dc n r l i).drop ((dcL dc i).length + (TL (!i) r l k).length) := by
          rw [ptB_drop]
          exact TL_at (!i) r l [true, false] hkn
        unfold piece at hl
        exact more_at hF hpk hat hk1 (by omega)
    have e5 : gE F N (!i) (hP 0 i) k = 5 := by
      unfold gE
      rw [e]
      rfl
    have hr := run_ok (N := N) (k := k) hF hbe hk hk1
    have hno : ¬ okG F N (!i) (hP 0 i) k := fun h => by
      have h5 := h.1
      rw [e] at h5
      exact absurd h5 (by decide)
    exact .inr ⟨h3, k, ⟨hr, hno⟩, .inl ⟨by rw [e5]; decide, e5.symm, rfl, rfl, rfl⟩⟩
  · cases hi : i with
    | false => subst hi; simp [dcL] at hb
    | true =>
      subst hi
      rw [dcL_len, if_pos rfl] at hb
      have e5 : Dk.hE F N 0 true = 5 := by
        unfold Dk.hE
        rw [if_neg (by omega), if_neg (by omega), if_neg (by decide), if_pos (by omega)]
      exact .inl ⟨by rw [e5]; decide, e5.symm, rfl, rfl, rfl⟩
end
theorem tab_lens : ∀ first, ∀ a ∈ tab first, ∀ b ∈ tab first, a.run = b.run → a.lvl = b.lvl → a.code.length = b.code.length := by decide +kernel
theorem put_least {first : Bool} {F : Nat → Int} {N q : Nat} {r l n : Int} (hq : q ≤ 8 * N) (h : getB first (S20 F N q) = ⟨r, l, false, n, 0⟩) : ((putB first r l).length : Int) ≤ n := by
  have hlen := (put_len first r l).2
  rcases rd_cases first F N q hq with ⟨e, he, _, g⟩ | ⟨hf, _, g⟩ | ⟨_, hq2, g⟩ | ⟨i, m, hi, hm, _, hq2, g⟩
  · rw [g] at h
    have := congrArg G5.e h
    have : e = 0 := this
    omega
  · rw [g] at h
    have := congrArg G5.en h
    cases this
  · rcases g with ⟨_, g⟩ | ⟨_, g⟩
    · rw [g] at h
      have := congrArg G5.e h
      have : (5 : Int) = 0 := this
      omega
    · rw [g] at h
      unfold escV at h
      split at h
      · have := congrArg G5.e h
        have : (10 : Int) = 0 := this
        omega
      · have := congrArg G5.n h
        have : (20 : Int) = n := this
        omega
  · rcases g with ⟨_, g⟩ | ⟨_, g⟩
    · rw [g] at h
      have := congrArg G5.e h
      have : (5 : Int) = 0 := this
      omega
    · rw [g] at h
      have e1 : ((eI first i).run : Int) = r := congrArg G5.r h
      have e2 : (if bitI F (q + m) = 1 then -((eI first i).lvl : Int) else (eI first i).lvl) = l := congrArg G5.l h
      have e3 : (m : Int) + 1 = n := congrArg G5.n h
      have hsm := eI_small (first := first) hi
      have hl0 : -15 ≤ l ∧ l ≤ 15 ∧ (((eI first i).lvl : Int) = l ∨ ((eI first i).lvl : Int) = -l) := by
        by_cases hb : bitI F (q + m) = 1
        · rw [if_pos hb] at e2; omega
        · rw [if_neg hb] at e2; omega
      have hw : wrap64 (-l) = -l := w64 (by omega)
      have hit : isE r l (eI first i) = true := by
        unfold isE
        rw [hw]
        simp only [Bool.and_eq_true, Bool.or_eq_true, decide_eq_true_eq]
        exact ⟨e1, hl0.2.2⟩
      unfold putB
      cases hf : (tab first).find? (isE r l) with
      | none => exact absurd hit (List.find?_eq_none.1 hf _ (mem_eI hi))
      | some e' =>
        have hm' := List.mem_of_find?_eq_some hf
        have h2 := List.find?_some hf
        unfold isE at h2
        rw [hw] at h2
        simp only [Bool.and_eq_true, Bool.or_eq_true, decide_eq_true_eq] at h2
        have hs2 := tab_codes first _ hm'
        have := tab_lens first e' hm' (eI first i) (mem_eI hi) (by omega) (by omega)
        simp only [List.length_append, List.length_cons, List.length_nil]
        omega
/-- what is got may be, and is put in no more bits. -/
theorem got_ok {F : Nat → Int} {N : Nat} {i : Bool} {dc b : Int} {n : Nat} {r l : Nat → Int} (h : GB F N 0 i 0 dc n b) (hr : ∀ j, j < n → (gg F N (!i) (hP 0 i) j).r = r j ∧ (gg F N (!i) (hP 0 i) j).l = l j) :
    bE dc n r l i = 0 ∧ ((ptB dc n r l i).length : Int) ≤ b ∧ b ≤ 8 * (N : Int) := by
  rcases h with ⟨h0, h1, _⟩ | ⟨h0, s, hs, h⟩
  · exact absurd h1.symm h0
  rcases h with ⟨h1, h2, _⟩ | ⟨h1, _, rfl, rfl, rfl⟩
  · exact absurd h2.symm h1
  obtain ⟨hge, hgen⟩ := hs.end h1
  have hok := hs.1
  have hpe : hP 0 i = ((dcL 0 i).length : Nat) := hP_len
  have hfin := gg_cases (F := F) (N := N) (fi := !i) (p0 := hP 0 i) n
  have hG : GOk N (gp F N (!i) (hP 0 i) n) (gg F N (!i) (hP 0 i) n) ∧ 0 ≤ gp F N (!i) (hP 0 i) n := by
    rcases hfin with ⟨e, h3, h4⟩ | h3
    · rw [h3] at hge
      have : e = 0 := hge
      omega
    · exact ⟨h3.2.2, h3.2.1⟩
  have h2n := hG.1.fi hgen
  have hfit := hG.1.fit
  have hsp : ∀ k, k ≤ n → spE (fst i) r l k = 0 ∧ spA (fst i) r k = pl F N (!i) (hP 0 i) k := by
    intro k
    induction k with
    | zero => exact fun _ => ⟨rfl, by cases i <;> rfl⟩
    | succ k ih =>
      intro hk
      obtain ⟨ih1, ih2⟩ := ih (by omega)
      have hk1 := hok k (by omega)
      have hk2 := hk1.ok
      obtain ⟨hr1, hl1⟩ := hr k (by omega)
      obtain ⟨hp1, hp2, hp3⟩ := hk2.pr hk1.2.1
      have hr0 := hk2.r0
      have h63 := hk1.2.2
      rw [hr1] at hr0 h63
      rw [hl1] at hp1 hp2 hp3
      refine ⟨?_, ?_⟩
      · rw [spE_succ, if_neg (by rw [ih1]; decide), if_neg, if_neg]
        · rw [ih2]; omega
        · rintro (h | h)
          · exact hp1 h
          · unfold lvl at h
            have := of_decide_eq_false h
            omega
      · rw [pl_succ, ← ih2, hr1]
        rfl
  have hlens : ∀ k, k ≤ n → (((dcL (hD F 0 i) i).length + (TL (!i) r l k).length : Nat) : Int) ≤ gp F N (!i) (hP 0 i) k := by
    intro k
    induction k with
    | zero =>
      intro _
      show _ ≤ hP 0 i
      rw [hP_len (dc := hD F 0 i)]
      simp [TL]
    | succ k ih =>
      intro hk
      have h3 := ih (by omega)
      have hk1 := hok k (by omega)
      have hk2 := hk1.ok
      obtain ⟨hr1, hl1⟩ := hr k (by omega)
      have hp0 : 0 ≤ gp F N (!i) (hP 0 i) k := by omega
      have hq : gp F N (!i) (hP 0 i) k ≤ 8 * (N : Int) := by have := hk2.fit; have := hk2.n2; omega
      obtain ⟨q, hqq⟩ : ∃ q : Nat, gp F N (!i) (hP 0 i) k = (q : Int) := ⟨(gp F N (!i) (hP 0 i) k).toNat, by omega⟩
      have e : gg F N (!i) (hP 0 i) k = getB (!i && decide (k = 0)) (S20 F N q) := by
        unfold gg
        rw [hqq]
        unfold getF
        rw [if_neg (by omega), if_neg (by omega)]
        rfl
      have e2 : getB (!i && decide (k = 0)) (S20 F N q) = ⟨r k, l k, false, (gg F N (!i) (hP 0 i) k).n, 0⟩ := by
        rw [← e]
        have a1 := hk1.1
        have a2 := hk1.2.1
        generalize gg F N (!i) (hP 0 i) k = G at *
        obtain ⟨g1, g2, g3, g4, g5⟩ := G
        simp only at hr1 hl1 a1 a2 ⊢
        rw [hr1, hl1, a1, a2]
      have h4 := put_least (by omega) e2
      rw [gp_succ]
      simp only [TL, List.length_append]
      unfold piece
      omega
  have hlast := hlens n (Nat.le_refl _)
  refine ⟨?_, ?_, ?_⟩
  · unfold bE
    have hd : dE (hD F 0 i) n i = 0 := by
      unfold dE hD
      cases hi : i with
      | true =>
        subst hi
        rw [if_pos rfl, if_pos rfl, if_neg]
        have hb := rdV_bd F 0 8
        unfold hE at h0
        rw [if_neg (by omega)] at h0
        by_cases h8 : 8 * (N : Int) < 0
        · rw [if_pos h8] at h0; cases h0
        rw [if_neg h8, if_neg (by decide)] at h0
        by_cases h9 : 8 * (N : Int) < 0 + 8
        · rw [if_pos h9] at h0; cases h0
        rw [if_neg h9, show (0 : Int).toNat = 0 from rfl] at h0
        by_cases h10 : rdV F 0 8 = 0 ∨ rdV F 0 8 = 128
        · rw [if_pos h10] at h0; cases h0
        have hb2 : 0 ≤ rdV F 0 8 ∧ rdV F 0 8 < 256 := hb
        show ¬ (rdV F 0 8 < 1 ∨ 255 < rdV F 0 8 ∨ rdV F 0 8 = 128)
        omega
      | false =>
        subst hi
        show (if (0 : Int) ≠ 0 ∨ n = 0 then (2 : Int) else 0) = 0
        rw [if_neg]
        rintro (h | h)
        · exact h rfl
        · subst h
          have h3 := hG.1
          have hp0 := hG.2
          have hq : gp F N (!false) (hP 0 false) 0 ≤ 8 * (N : Int) := by have := h3.n2; omega
          have e : gg F N (!false) (hP 0 false) 0 = getB true (S20 F N 0) := by
            unfold gg
            show getF F N 0 (true && decide (0 = 0)) = _
            unfold getF
            rw [if_neg (by omega), if_neg (by omega)]
            rfl
          rw [e] at hgen
          exact absurd (getB_en hgen).1 (by decide)
    rw [if_neg (by rw [hd]; decide)]
    unfold sE
    rw [if_pos (fst_01 i)]
    exact (hsp n (Nat.le_refl _)).1
  · rw [gp_succ, h2n.2.2]
    unfold ptB
    simp only [List.length_append, List.length_cons, List.length_nil]
    omega
  · rw [gp_succ]
    omega
end Dk
end Go.Proofs.YtpibeocngkjolaaGreatDoor

namespace Go.Proofs.YtpibeocngkjolaaGreatDoor
open Go.RowKit Go.Shelf
set_option linter.unusedSimpArgs false
set_option linter.unusedVariables false
namespace Dk
open Cf Bk Sc
/-- what holds while a block is put. -/
structure PU (w : World) (B : Nat) (dc : Int) (q : Option Addr) (n c : Nat) (L : List Bool) (V : World) : Prop where
  b : Lib.IsBuilderF 77 5 B B (Lib.byteCells (cs L)) V
  bel : Below w.heap.size w V
  a : At V w.heap.size #[.int .i64 dc, .slice q n c] 27
  z : B ≤ V.heap.size
  lt : w.heap.size < B
theorem bAt_below {T e : TypeId} {B b : Nat} {p : Value} {bs : List Value} {W W' : World} (h : Lib.BuilderAtF T e B b p bs W) (hb : Below W.heap.size W W') : Lib.BuilderAtF T e B b p bs W' := by
  have hlt := h.lt
  obtain ⟨hB, v, hv, hown, hne⟩ := h
  exact ⟨hB, v, (hb.block b hlt).trans hv, hown.kept (row := none) ⟨hb.os, hb.tape, hb.output, hb.size, fun k hk _ => hb.block k hk⟩ (Classical.em _), hne⟩
theorem isB_below {T e : TypeId} {B b : Nat} {bs : List Value} {W W' : World} (h : Lib.IsBuilderF T e B b bs W) (hb : Below W.heap.size W W') : Lib.IsBuilderF T e B b bs W' :=
  h.elim (fun x => .inl (bAt_below x hb)) (fun x => .inr (bAt_below x hb))
theorem PU.below {w : World} {B : Nat} {dc : Int} {q : Option Addr} {n c : Nat} {L : List Bool} {V V' : World} (h : PU w B dc q n c L V) (hb : Below V.heap.size V V') : PU w B dc q n c L V' :=
  ⟨isB_below h.b hb, chain h.bel hb, h.a.below hb, Nat.le_trans h.z hb.size, h.lt⟩
theorem PU.write {w : World} {B : Nat} {dc : Int} {q : Option Addr} {n c : Nat} {L L' : List Bool} {V V' : World} {bs : List Value} (h : PU w B dc q n c L V) (h1 : Lib.BuilderAtF 77 5 B B (.pointer (some ⟨B, 0, none⟩)) bs V') (hb : Below B V V') (e : bs = Lib.byteCells (cs L')) : PU w B dc q n c L' V' :=
  ⟨.inr (e ▸ h1), h.bel.trans (hb.mono (Nat.le_of_lt h.lt)), (hb.block _ h.lt).trans h.a, Nat.le_trans h.z hb.size, h.lt⟩
theorem bit_u8 (dc D : Int) (Dn : Nat) (hD : D = (Dn : Int)) (h0 : 0 < Dn) (d0 : 1 ≤ dc) (d1 : dc ≤ 255) : wrap64 (48 + bits .and .i64 (dc / D) 1) % 256 = (((bch (dc.toNat / Dn % 2 == 1)).toNat : Nat) : Int) := by
  obtain ⟨m, rfl⟩ : ∃ m : Nat, dc = (m : Int) := ⟨dc.toNat, by omega⟩
  subst hD
  have hm : m / Dn ≤ m := Nat.div_le_self _ _
  have e : (m : Int) / (Dn : Int) = ((m / Dn : Nat) : Int) := by simp
  rw [e, Int.toNat_natCast]
  obtain ⟨y, hy⟩ : ∃ y, m / Dn = y := ⟨_, rfl⟩
  rw [hy] at hm ⊢
  rw [i64_and_1 _ (by omega) (by omega)]
  have h2 : y % 2 = 0 ∨ y % 2 = 1 := by omega
  have h3 : (y : Int) % 2 = ((y % 2 : Nat) : Int) := by omega
  rw [h3]
  rcases h2 with h | h <;> rw [h]
  · rw [w64 (by decide)]; rfl
  · rw [w64 (by decide)]; rfl
theorem sv_app2 (a b : List Bool) (S U : ByteArray) (hS : sv (cs a) = .string S) (hU : sv (cs b) = .string U) : Value.string (S ++ U) = sv (cs (a ++ b)) := by
  have hS' := Value.string.inj hS
  have hU' := Value.string.inj hU
  rw [← hS', ← hU']
  unfold sv
  exact congrArg Value.string (by apply ByteArray.ext; simp [cs])
theorem cs_app (a b : List Bool) : cs (a ++ b) = cs a ++ cs b := by simp [cs]
section
set_option maxRecDepth 100000
set_option maxHeartbeats 8000000
theorem Put_no (dc : Int) (q : Option Addr) (n c : Nat) (r l : Nat → Int) (i : Bool) (hn : n ≤ 1000) (w : World) (hp : Pl w (.slice q n c) n r l) (hE : bE dc n r l i ≠ 0) :
    Calls Tryz.prog 18 #[bv dc q n c, .bool i] w fun e w' => e = .returned (.tuple #[sv [], .int .i64 (bE dc n r l i)]) ∧ Below w.heap.size w w' := by
  have HC := Lib.hid (fun V (h : Pl V (.slice q n c) n r l) => Check_any dc q n c r l i hn V h)
  obtain ⟨E, hE2⟩ : ∃ E, bE dc n r l i = E := ⟨_, rfl⟩
  rw [hE2] at HC hE ⊢
  have e1 : (E != 0) = true := by simpa using hE
  have HB := Lib.hid ((Below.refl w.heap.size w).alloc (Nat.le_refl _) (.cells #[.int .i64 dc, .slice q n c] 27))
  have HA := Lib.hid (At.new w #[.int .i64 dc, .slice q n c] 27)
  have HP := Lib.hid (hp.below HB.out)
  have k0 := HA.out.cell 0 _ rfl
  have k1 := HA.out.cell 1 _ rfl
  clear hE2 hE hp
  unfold sv
  go_enter Tryz.func18, Tryz.ntmps18
  go_wp2_with (go_at_call 23; refine (HC.out _ HP.out).mono ?_; rintro e w1 ⟨rfl, h1⟩; have HB := Lib.hid (chain HB.out h1); clear h1 k0 k1)
  go_ret2
  exact ⟨rfl, HB.out⟩
theorem Put_intra (dc : Int) (q : Option Addr) (n c : Nat) (r l : Nat → Int) (w : World) (hp : Pl w (.slice q n c) n r l) (hT : Tabs w) (hE : bE dc n r l true = 0) :
    Calls Tryz.prog 18 #[bv dc q n c, .bool true] w fun e w' => e = .returned (.tuple #[sv (cs (ptB dc n r l true)), .int .i64 0]) ∧ Below w.heap.size w w' := by
  have hn := ok_n hE
  have HC := Lib.hid (fun V (h : Pl V (.slice q n c) n r l) => Check_any dc q n c r l true (by omega) V h)
  rw [hE] at HC
  have HPB := Lib.hid (fun k (hk : k < n) => ok_pair hE hk)
  have hdc := hE
  have HB := Lib.hid ((Below.refl w.heap.size w).alloc (Nat.le_refl _) (.cells #[.int .i64 dc, .slice q n c] 27))
  have HA := Lib.hid (At.new w #[.int .i64 dc, .slice q n c] 27)
  have HP := Lib.hid hp
  have HT := Lib.hid hT
  have k0 := HA.out.cell 0 _ rfl
  have k1 := HA.out.cell 1 _ rfl
  clear hE hp hT
  go_enter Tryz.func18, Tryz.ntmps18
  go_upto_region 5 with (go_at_call 23; refine (HC.out _ (HP.out.below HB.out)).mono ?_; rintro e w1 ⟨rfl, h1⟩; have HB := Lib.hid (chain HB.out h1); have HA := Lib.hid (HA.out.below h1); clear h1 k0 k1)
  have P0 : Hid (PU w w1.heap.size dc q n c [] (w1.alloc (.cells #[.pointer none, .slice none 0 0] 77))) := Lib.hid ⟨Lib.IsBuilderF.of (Lib.fresh_isBuilder 77 5 w1), HB.out.alloc HB.out.size _, HA.out.below ((Below.refl _ _).alloc (Nat.le_refl _) _), by simp, HA.out.lt⟩
  obtain ⟨B, hB⟩ : ∃ x, w1.heap.size = x := ⟨_, rfl⟩
  obtain ⟨w2, hw2⟩ : ∃ x, w1.alloc (.cells #[.pointer none, .slice none 0 0] 77) = x := ⟨_, rfl⟩
  rw [hw2] at P0 ⊢
  rw [hB] at P0 ⊢
  clear hw2 hB HA HB
  have hdc := ok_dc hdc
  go_wp2_with fail
  go_loopw [8] (fun i wr => ∃ k : Nat, k ≤ 8 ∧ ∃ x : Int, x = 7 - (k : Int) ∧ i = .int .i64 x ∧ Hid (PU w B dc q n c ((bitsL 8 dc.toNat).take k) wr)) (fun i _ => (intOf i + 1).toNat)
  case atStart => exact ⟨0, by omega, 7, by omega, rfl, P0⟩
  case round =>
    obtain ⟨k, hk, x, hx, rfl, HU⟩ := hrel
    clear P0
    by_cases hk8 : k < 8
    · have HL := Lib.hid (bits_take dc.toNat k hk8)
      have ka := HU.out.a.cell 0 _ rfl
      have HZ : Hid ((Lib.byteCells (cs (List.take k (bitsL 8 dc.toNat)))).length + 1 ≤ 1000000) := Lib.hid (by rw [Lib.byteCells_length, cs_len, List.length_take]; omega)
      have zB := HU.out.z
      have d0 := hdc.1
      have d1 := hdc.2.1
      rcases (by omega : k = 0 ∨ k = 1 ∨ k = 2 ∨ k = 3 ∨ k = 4 ∨ k = 5 ∨ k = 6 ∨ k = 7) with rfl | rfl | rfl | rfl | rfl | rfl | rfl | rfl
      · obtain rfl : x = 7 := by omega
        have e8 := bit_u8 dc 128 128 rfl (by decide) d0 d1
        have HBC := Lib.hid (show Lib.byteCells (cs (List.take 0 (bitsL 8 dc.toNat))) ++ [.int .u8 (bch (dc.toNat / 128 % 2 == 1)).toNat] = Lib.byteCells (cs (List.take 1 (bitsL 8 dc.toNat))) from by rw [← byteCells_snoc]; exact congrArg (fun x => Lib.byteCells (cs x)) HL.out.symm)
        clear hx hk hk8 hn hdc d0 d1 HL
        go_wp2_with fail
        rw [e8]
        refine (WriteByte_k B B _ _ wr HU.out.b HZ.out zB).mono ?_
        rintro e w4 ⟨rfl, h4, b4, _⟩
        have HU2 := Lib.hid (HU.out.write h4 b4 HBC.out)
        clear h4 b4 e8
        go_wp2_with fail
        go_roundw
        case rel => exact ⟨1, by omega, 6, by omega, by go_num, HU2⟩
        case measure => simp [intOf]
      · obtain rfl : x = 6 := by omega
        have e8 := bit_u8 dc 64 64 rfl (by decide) d0 d1
        have HBC := Lib.hid (show Lib.byteCells (cs (List.take 1 (bitsL 8 dc.toNat))) ++ [.int .u8 (bch (dc.toNat / 64 % 2 == 1)).toNat] = Lib.byteCells (cs (List.take 2 (bitsL 8 dc.toNat))) from by rw [← byteCells_snoc]; exact congrArg (fun x => Lib.byteCells (cs x)) HL.out.symm)
        clear hx hk hk8 hn hdc d0 d1 HL
        go_wp2_with fail
        rw [e8]
        refine (WriteByte_k B B _ _ wr HU.out.b HZ.out zB).mono ?_
        rintro e w4 ⟨rfl, h4, b4, _⟩
        have HU2 := Lib.hid (HU.out.write h4 b4 HBC.out)
        clear h4 b4 e8
        go_wp2_with fail
        go_roundw
        case rel => exact ⟨2, by omega, 5, by omega, by go_num, HU2⟩
        case measure => simp [intOf]
      · obtain rfl : x = 5 := by omega
        have e8 := bit_u8 dc 32 32 rfl (by decide) d0 d1
        have HBC := Lib.hid (show Lib.byteCells (cs (List.take 2 (bitsL 8 dc.toNat))) ++ [.int .u8 (bch (dc.toNat / 32 % 2 == 1)).toNat] = Lib.byteCells (cs (List.take 3 (bitsL 8 dc.toNat))) from by rw [← byteCells_snoc]; exact congrArg (fun x => Lib.byteCells (cs x)) HL.out.symm)
        clear hx hk hk8 hn hdc d0 d1 HL
        go_wp2_with fail
        rw [e8]
        refine (WriteByte_k B B _ _ wr HU.out.b HZ.out zB).mono ?_
        rintro e w4 ⟨rfl, h4, b4, _⟩
        have HU2 := Lib.hid (HU.out.write h4 b4 HBC.out)
        clear h4 b4 e8
        go_wp2_with fail
        go_roundw
        case rel => exact ⟨3, by omega, 4, by omega, by go_num, HU2⟩
        case measure => simp [intOf]
      · obtain rfl : x = 4 := by omega
        have e8 := bit_u8 dc 16 16 rfl (by decide) d0 d1
        have HBC := Lib.hid (show Lib.byteCells (cs (List.take 3 (bitsL 8 dc.toNat))) ++ [.int .u8 (bch (dc.toNat / 16 % 2 == 1)).toNat] = Lib.byteCells (cs (List.take 4 (bitsL 8 dc.toNat))) from by rw [← byteCells_snoc]; exact congrArg (fun x => Lib.byteCells (cs x)) HL.out.symm)
        clear hx hk hk8 hn hdc d0 d1 HL
        go_wp2_with fail
        rw [e8]
        refine (WriteByte_k B B _ _ wr HU.out.b HZ.out zB).mono ?_
        rintro e w4 ⟨rfl, h4, b4, _⟩
        have HU2 := Lib.hid (HU.out.write h4 b4 HBC.out)
        clear h4 b4 e8
        go_wp2_with fail
        go_roundw
        case rel => exact ⟨4, by omega, 3, by omega, by go_num, HU2⟩
        case measure => simp [intOf]
      · obtain rfl : x = 3 := by omega
        have e8 := bit_u8 dc 8 8 rfl (by decide) d0 d1
        have HBC := Lib.hid (show Lib.byteCells (cs (List.take 4 (bitsL 8 dc.toNat))) ++ [.int .u8 (bch (dc.toNat / 8 % 2 == 1)).toNat] = Lib.byteCells (cs (List.take 5 (bitsL 8 dc.toNat))) from by rw [← byteCells_snoc]; exact congrArg (fun x => Lib.byteCells (cs x)) HL.out.symm)
        clear hx hk hk8 hn hdc d0 d1 HL
        go_wp2_with fail
        rw [e8]
        refine (WriteByte_k B B _ _ wr HU.out.b HZ.out zB).mono ?_
        rintro e w4 ⟨rfl, h4, b4, _⟩
        have HU2 := Lib.hid (HU.out.write h4 b4 HBC.out)
        clear h4 b4 e8
        go_wp2_with fail
        go_roundw
        case rel => exact ⟨5, by omega, 2, by omega, by go_num, HU2⟩
        case measure => simp [intOf]
      · obtain rfl : x = 2 := by omega
        have e8 := bit_u8 dc 4 4 rfl (by decide) d0 d1
        have HBC := Lib.hid (show Lib.byteCells (cs (List.take 5 (bitsL 8 dc.toNat))) ++ [.int .u8 (bch (dc.toNat / 4 % 2 == 1)).toNat] = Lib.byteCells (cs (List.take 6 (bitsL 8 dc.toNat))) from by rw [← byteCells_snoc]; exact congrArg (fun x => Lib.byteCells (cs x)) HL.out.symm)
        clear hx hk hk8 hn hdc d0 d1 HL
        go_wp2_with fail
        rw [e8]
        refine (WriteByte_k B B _ _ wr HU.out.b HZ.out zB).mono ?_
        rintro e w4 ⟨rfl, h4, b4, _⟩
        have HU2 := Lib.hid (HU.out.write h4 b4 HBC.out)
        clear h4 b4 e8
        go_wp2_with fail
        go_roundw
        case rel => exact ⟨6, by omega, 1, by omega, by go_num, HU2⟩
        case measure => simp [intOf]
      · obtain rfl : x = 1 := by omega
        have e8 := bit_u8 dc 2 2 rfl (by decide) d0 d1
        have HBC := Lib.hid (show Lib.byteCells (cs (List.take 6 (bitsL 8 dc.toNat))) ++ [.int .u8 (bch (dc.toNat / 2 % 2 == 1)).toNat] = Lib.byteCells (cs (List.take 7 (bitsL 8 dc.toNat))) from by rw [← byteCells_snoc]; exact congrArg (fun x => Lib.byteCells (cs x)) HL.out.symm)
        clear hx hk hk8 hn hdc d0 d1 HL
        go_wp2_with fail
        rw [e8]
        refine (WriteByte_k B B _ _ wr HU.out.b HZ.out zB).mono ?_
        rintro e w4 ⟨rfl, h4, b4, _⟩
        have HU2 := Lib.hid (HU.out.write h4 b4 HBC.out)
        clear h4 b4 e8
        go_wp2_with fail
        go_roundw
        case rel => exact ⟨7, by omega, 0, by omega, by go_num, HU2⟩
        case measure => simp [intOf]
      · obtain rfl : x = 0 := by omega
        have e8 := bit_u8 dc 1 1 rfl (by decide) d0 d1
        have HBC := Lib.hid (show Lib.byteCells (cs (List.take 7 (bitsL 8 dc.toNat))) ++ [.int .u8 (bch (dc.toNat / 1 % 2 == 1)).toNat] = Lib.byteCells (cs (List.take 8 (bitsL 8 dc.toNat))) from by rw [← byteCells_snoc]; exact congrArg (fun x => Lib.byteCells (cs x)) HL.out.symm)
        clear hx hk hk8 hn hdc d0 d1 HL
        go_wp2_with fail
        first | rw [e8] | (rw [Int.ediv_one] at e8; rw [e8])
        refine (WriteByte_k B B _ _ wr HU.out.b HZ.out zB).mono ?_
        rintro e w4 ⟨rfl, h4, b4, _⟩
        have HU2 := Lib.hid (HU.out.write h4 b4 HBC.out)
        clear h4 b4 e8
        go_wp2_with fail
        go_roundw
        case rel => exact ⟨8, by omega, -1, by omega, by go_num, HU2⟩
        case measure => simp [intOf]
    · obtain rfl : k = 8 := by omega
      obtain rfl : x = -1 := by omega
      have HU0 : Hid (PU w B dc q n c (dcL dc true ++ TL false r l 0) wr) := by
        have e : (bitsL 8 dc.toNat).take 8 = dcL dc true ++ TL false r l 0 := by
          rw [List.take_of_length_le (by rw [bitsL_len]; exact Nat.le_refl _)]
          exact (List.append_nil _).symm
        rw [← e]
        exact HU
      have g1 := HU0.out.a.cell 1 _ rfl
      clear hx hk hk8 hdc HU
      go_wp2_with fail
      go_loopw [35] (fun i wr => ∃ k : Nat, k ≤ n ∧ i = .int .i64 k ∧ Hid (PU w B dc q n c (dcL dc true ++ TL false r l k) wr)) (fun i _ => n - (intOf i).toNat)
      case atStart => exact ⟨0, by omega, rfl, HU0⟩
      case round =>
        obtain ⟨k, hk, rfl, HU⟩ := hrel
        clear HU0 g1
        by_cases hkn : k < n
        · have kb : (k : Int) < (n : Int) := by omega
          have ek : wrap64 ((k : Int) + 1) = (k : Int) + 1 := w64 (by omega)
          obtain ⟨a', c', e, hnc, hcm, h3⟩ := id HP.out
          obtain ⟨rfl, rfl⟩ : q = a' ∧ c = c' := by cases e; exact ⟨rfl, rfl⟩
          rcases h3 with h0 | ⟨pb, po, rfl, hlt, hI⟩
          · omega
          have HI := Lib.hid hI
          have HLK := Lib.hid hlt
          have HPK := HPB.out k hkn
          have HPUT := Lib.hid (fun W h => Put_any (r k) (l k) (false && decide (k = 0)) W h)
          rw [HPK, if_pos rfl, if_pos rfl, putL_cs] at HPUT
          have LP := put_len (false && decide (k = 0)) (r k) (l k)
          have hU : ∃ U : ByteArray, sv (cs (putB (false && decide (k = 0)) (r k) (l k))) = .string U ∧ U.size = (putB (false && decide (k = 0)) (r k) (l k)).length := ⟨_, rfl, by rw [ba_size, cs_len]⟩
          obtain ⟨U, hU, hzU⟩ := hU
          rw [hU] at HPUT
          have HSC := Lib.hid (show Lib.byteCells (cs (dcL dc true ++ TL false r l k)) ++ Lib.strCells U = Lib.byteCells (cs (dcL dc true ++ TL false r l (k + 1))) from by
            rw [strCells_sv _ U hU, ← byteCells_app, ← cs_app]
            exact congrArg (fun x => Lib.byteCells (cs x)) (List.append_assoc _ _ _))
          have HZ : Hid ((Lib.byteCells (cs (dcL dc true ++ TL false r l k))).length + U.size ≤ 1000000) := Lib.hid (by
            rw [Lib.byteCells_length, cs_len, List.length_append, dcL_len]
            have := TL_len false r l k
            split <;> omega)
          have zu : U.size ≤ 20 := by omega
          have x0 := (HU.out.bel.cell (p := ⟨pb, po + k * 2, none⟩) hlt).trans (hI k hkn).1
          have x1 := (HU.out.bel.cell (p := ⟨pb, po + k * 2 + 1, none⟩) hlt).trans (hI k hkn).2
          unfold prV at HPUT
          obtain ⟨rv, hr⟩ : ∃ x, r k = x := ⟨_, rfl⟩
          obtain ⟨lv, hl⟩ : ∃ x, l k = x := ⟨_, rfl⟩
          rw [hr] at x0 HPUT
          rw [hl] at x1 HPUT
          clear hr hl hU hzU LP HPK hI hlt hnc hcm e
          obtain ⟨fb, hfb⟩ : ∃ b : Bool, decide (k = 0) = b := ⟨_, rfl⟩
          have hk0 : ((k : Int) == 0) = fb := by rw [← hfb]; by_cases h : k = 0 <;> simp [h]
          rw [hfb] at HPUT
          clear hfb
          cases fb
          all_goals
            simp only [Bool.false_and, Bool.true_and] at HPUT
            go_upto_region 13 with fail
            have HU1 := Lib.hid (HU.out.below ((Below.refl _ _).alloc (Nat.le_refl _) (.cells #[.int .i64 rv, .int .i64 lv] 69)))
            have q1 := heap_alloc_new wr (.cells #[.int .i64 rv, .int .i64 lv] 69)
            have y0 := cell_row q1 (i := 0) rfl
            have y1 := cell_row q1 (i := 1) rfl
            clear x0 x1 HU q1
            go_wp2_with (first
              | (go_at_call 44; refine (HPUT.out _ (HT.out.below HU1.out.bel)).mono ?_; rintro e w3 ⟨rfl, hb⟩; have HU2 := Lib.hid (HU1.out.below hb); have z3 := HU2.out.z; clear hb y0 y1)
              | (go_at_call 45; refine (WriteString_k B B _ U _ HU2.out.b HZ.out z3).mono ?_; rintro e w4 ⟨rfl, h4, b4, _⟩; have HU3 := Lib.hid (HU2.out.write h4 b4 HSC.out); clear h4 b4))
            go_roundw
            case rel => exact ⟨k + 1, by omega, by go_num, HU3⟩
            case measure => simp [intOf]; omega
        · obtain rfl : k = n := by omega
          have HAPP : ∃ S : ByteArray, sv (cs (dcL dc true ++ TL false r l k)) = .string S ∧ S = ⟨(cs (dcL dc true ++ TL false r l k)).toArray⟩ ∧ S.size ≤ 2000 := ⟨_, rfl, rfl, by
            rw [ba_size, cs_len, List.length_append, dcL_len]
            have := TL_len false r l k
            split <;> omega⟩
          obtain ⟨S, hS, hS2, hS3⟩ := HAPP
          have HFIN := Lib.hid (show Value.string (S ++ ⟨#[49, 48]⟩) = sv (cs (ptB dc k r l true)) from by
            rw [sv_app2 _ _ S _ hS (show sv (cs [true, false]) = .string ⟨#[49, 48]⟩ from rfl)]
            exact congrArg (fun x => sv (cs x)) (List.append_assoc _ _ _))
          have HSTR := Lib.hid (fun zB => Tryz.Builder_String_any_k B B (cs (dcL dc true ++ TL false r l k)) wr HU.out.b zB)
          rw [← hS2] at HSTR
          have HENC := Lib.hid (fun V => End_any V)
          rw [show sv (cs [true, false]) = .string ⟨#[49, 48]⟩ from rfl] at HENC
          clear hS hS2 hk hn
          go_wp2_with (first
            | (go_at_call 46; refine (HSTR.out HU.out.z).mono ?_; rintro e w3 ⟨rfl, _, b3, _⟩; have HB3 := Lib.hid (HU.out.bel.trans (b3.mono (Nat.le_of_lt HU.out.lt))); clear b3)
            | (go_at_call 47; refine (HENC.out _).mono ?_; rintro e w4 ⟨rfl, rfl⟩))
          go_ret2
          exact ⟨by rw [← HFIN.out]; rfl, HB3.out⟩
theorem Put_inter (dc : Int) (q : Option Addr) (n c : Nat) (r l : Nat → Int) (w : World) (hp : Pl w (.slice q n c) n r l) (hT : Tabs w) (hE : bE dc n r l false = 0) :
    Calls Tryz.prog 18 #[bv dc q n c, .bool false] w fun e w' => e = .returned (.tuple #[sv (cs (ptB dc n r l false)), .int .i64 0]) ∧ Below w.heap.size w w' := by
  have hn := ok_n hE
  have HC := Lib.hid (fun V (h : Pl V (.slice q n c) n r l) => Check_any dc q n c r l false (by omega) V h)
  rw [hE] at HC
  have HPB := Lib.hid (fun k (hk : k < n) => ok_pair hE hk)
  have hdc := hE
  have HB := Lib.hid ((Below.refl w.heap.size w).alloc (Nat.le_refl _) (.cells #[.int .i64 dc, .slice q n c] 27))
  have HA := Lib.hid (At.new w #[.int .i64 dc, .slice q n c] 27)
  have HP := Lib.hid hp
  have HT := Lib.hid hT
  have k0 := HA.out.cell 0 _ rfl
  have k1 := HA.out.cell 1 _ rfl
  clear hE hp hT
  go_enter Tryz.func18, Tryz.ntmps18
  go_upto_region 5 with (go_at_call 23; refine (HC.out _ (HP.out.below HB.out)).mono ?_; rintro e w1 ⟨rfl, h1⟩; have HB := Lib.hid (chain HB.out h1); have HA := Lib.hid (HA.out.below h1); clear h1 k0 k1)
  have P0 : Hid (PU w w1.heap.size dc q n c [] (w1.alloc (.cells #[.pointer none, .slice none 0 0] 77))) := Lib.hid ⟨Lib.IsBuilderF.of (Lib.fresh_isBuilder 77 5 w1), HB.out.alloc HB.out.size _, HA.out.below ((Below.refl _ _).alloc (Nat.le_refl _) _), by simp, HA.out.lt⟩
  obtain ⟨B, hB⟩ : ∃ x, w1.heap.size = x := ⟨_, rfl⟩
  obtain ⟨w2, hw2⟩ : ∃ x, w1.alloc (.cells #[.pointer none, .slice none 0 0] 77) = x := ⟨_, rfl⟩
  rw [hw2] at P0 ⊢
  rw [hB] at P0 ⊢
  clear hw2 hB HA HB
  clear hdc
  have HU0 : Hid (PU w B dc q n c (dcL dc false ++ TL true r l 0) w2) := P0
  have g1 := HU0.out.a.cell 1 _ rfl
  clear P0
  go_wp2_with fail
  go_loopw [35] (fun i wr => ∃ k : Nat, k ≤ n ∧ i = .int .i64 k ∧ Hid (PU w B dc q n c (dcL dc false ++ TL true r l k) wr)) (fun i _ => n - (intOf i).toNat)
  case atStart => exact ⟨0, by omega, rfl, HU0⟩
  case round =>
    obtain ⟨k, hk, rfl, HU⟩ := hrel
    clear HU0 g1
    by_cases hkn : k < n
    · have kb : (k : Int) < (n : Int) := by omega
      have ek : wrap64 ((k : Int) + 1) = (k : Int) + 1 := w64 (by omega)
      obtain ⟨a', c', e, hnc, hcm, h3⟩ := id HP.out
      obtain ⟨rfl, rfl⟩ : q = a' ∧ c = c' := by cases e; exact ⟨rfl, rfl⟩
      rcases h3 with h0 | ⟨pb, po, rfl, hlt, hI⟩
      · omega
      have HI := Lib.hid hI
      have HLK := Lib.hid hlt
      have HPK := HPB.out k hkn
      have HPUT := Lib.hid (fun W h => Put_any (r k) (l k) (true && decide (k = 0)) W h)
      rw [HPK, if_pos rfl, if_pos rfl, putL_cs] at HPUT
      have LP := put_len (true && decide (k = 0)) (r k) (l k)
      have hU : ∃ U : ByteArray, sv (cs (putB (true && decide (k = 0)) (r k) (l k))) = .string U ∧ U.size = (putB (true && decide (k = 0)) (r k) (l k)).length := ⟨_, rfl, by rw [ba_size, cs_len]⟩
      obtain ⟨U, hU, hzU⟩ := hU
      rw [hU] at HPUT
      have HSC := Lib.hid (show Lib.byteCells (cs (dcL dc false ++ TL true r l k)) ++ Lib.strCells U = Lib.byteCells (cs (dcL dc false ++ TL true r l (k + 1))) from by
        rw [strCells_sv _ U hU, ← byteCells_app, ← cs_app]
        exact congrArg (fun x => Lib.byteCells (cs x)) (List.append_assoc _ _ _))
      have HZ : Hid ((Lib.byteCells (cs (dcL dc false ++ TL true r l k))).length + U.size ≤ 1000000) := Lib.hid (by
        rw [Lib.byteCells_length, cs_len, List.length_append, dcL_len]
        have := TL_len true r l k
        split <;> omega)
      have zu : U.size ≤ 20 := by omega
      have x0 := (HU.out.bel.cell (p := ⟨pb, po + k * 2, none⟩) hlt).trans (hI k hkn).1
      have x1 := (HU.out.bel.cell (p := ⟨pb, po + k * 2 + 1, none⟩) hlt).trans (hI k hkn).2
      unfold prV at HPUT
      obtain ⟨rv, hr⟩ : ∃ x, r k = x := ⟨_, rfl⟩
      obtain ⟨lv, hl⟩ : ∃ x, l k = x := ⟨_, rfl⟩
      rw [hr] at x0 HPUT
      rw [hl] at x1 HPUT
      clear hr hl hU hzU LP HPK hI hlt hnc hcm e
      obtain ⟨fb, hfb⟩ : ∃ b : Bool, decide (k = 0) = b := ⟨_, rfl⟩
      have hk0 : ((k : Int) == 0) = fb := by rw [← hfb]; by_cases h : k = 0 <;> simp [h]
      rw [hfb] at HPUT
      clear hfb
      cases fb
      all_goals
        simp only [Bool.false_and, Bool.true_and] at HPUT
        go_upto_region 13 with fail
        have HU1 := Lib.hid (HU.out.below ((Below.refl _ _).alloc (Nat.le_refl _) (.cells #[.int .i64 rv, .int .i64 lv] 69)))
        have q1 := heap_alloc_new wr (.cells #[.int .i64 rv, .int .i64 lv] 69)
        have y0 := cell_row q1 (i := 0) rfl
        have y1 := cell_row q1 (i := 1) rfl
        clear x0 x1 HU q1
        go_wp2_with (first
          | (go_at_call 44; refine (HPUT.out _ (HT.out.below HU1.out.bel)).mono ?_; rintro e w3 ⟨rfl, hb⟩; have HU2 := Lib.hid (HU1.out.below hb); have z3 := HU2.out.z; clear hb y0 y1)
          | (go_at_call 45; refine (WriteString_k B B _ U _ HU2.out.b HZ.out z3).mono ?_; rintro e w4 ⟨rfl, h4, b4, _⟩; have HU3 := Lib.hid (HU2.out.write h4 b4 HSC.out); clear h4 b4))
        go_roundw
        case rel => exact ⟨k + 1, by omega, by go_num, HU3⟩
        case measure => simp [intOf]; omega
    · obtain rfl : k = n := by omega
      have HAPP : ∃ S : ByteArray, sv (cs (dcL dc false ++ TL true r l k)) = .string S ∧ S = ⟨(cs (dcL dc false ++ TL true r l k)).toArray⟩ ∧ S.size ≤ 2000 := ⟨_, rfl, rfl, by
        rw [ba_size, cs_len, List.length_append, dcL_len]
        have := TL_len true r l k
        split <;> omega⟩
      obtain ⟨S, hS, hS2, hS3⟩ := HAPP
      have HFIN := Lib.hid (show Value.string (S ++ ⟨#[49, 48]⟩) = sv (cs (ptB dc k r l false)) from by
        rw [sv_app2 _ _ S _ hS (show sv (cs [true, false]) = .string ⟨#[49, 48]⟩ from rfl)]
        exact congrArg (fun x => sv (cs x)) (List.append_assoc _ _ _))
      have HSTR := Lib.hid (fun zB => Tryz.Builder_String_any_k B B (cs (dcL dc false ++ TL true r l k)) wr HU.out.b zB)
      rw [← hS2] at HSTR
      have HENC := Lib.hid (fun V => End_any V)
      rw [show sv (cs [true, false]) = .string ⟨#[49, 48]⟩ from rfl] at HENC
      clear hS hS2 hk hn
      go_wp2_with (first
        | (go_at_call 46; refine (HSTR.out HU.out.z).mono ?_; rintro e w3 ⟨rfl, _, b3, _⟩; have HB3 := Lib.hid (HU.out.bel.trans (b3.mono (Nat.le_of_lt HU.out.lt))); clear b3)
        | (go_at_call 47; refine (HENC.out _).mono ?_; rintro e w4 ⟨rfl, rfl⟩))
      go_ret2
      exact ⟨by rw [← HFIN.out]; rfl, HB3.out⟩
theorem Put_any2 (dc : Int) (q : Option Addr) (n c : Nat) (r l : Nat → Int) (i : Bool) (hn : n ≤ 1000) (w : World) (hp : Pl w (.slice q n c) n r l) (hT : Tabs w) :
    Calls Tryz.prog 18 #[bv dc q n c, .bool i] w fun e w' => e = .returned (.tuple #[if bE dc n r l i = 0 then sv (cs (ptB dc n r l i)) else sv [], .int .i64 (bE dc n r l i)]) ∧ Below w.heap.size w w' := by
  by_cases h : bE dc n r l i = 0
  · rw [if_pos h, h]
    cases i
    · exact Put_inter dc q n c r l w hp hT h
    · exact Put_intra dc q n c r l w hp hT h
  · rw [if_neg h]
    exact Put_no dc q n c r l i hn w hp h
end
end Dk
end Go.Proofs.YtpibeocngkjolaaGreatDoor

namespace Go.Proofs.YtpibeocngkjolaaGreatDoor
open Go.RowKit Go.Shelf
set_option linter.unusedSimpArgs false
set_option linter.unusedVariables false
namespace Dk
open Cf Bk Sc
/-- what holds while the document puts a block. -/
structure PV (w : World) (dc : Int) (q : Option Addr) (n c : Nat) (V : World) : Prop where
  bel : Below w.heap.size w V
  a : At V w.heap.size #[.int .i64 dc, .slice q n c] 27
theorem PV.below {w : World} {dc : Int} {q : Option Addr} {n c : Nat} {V V' : World} (h : PV w dc q n c V) (hb : Below V.heap.size V V') : PV w dc q n c V' := ⟨chain h.bel hb, h.a.below hb⟩
theorem tmod_bit (dc D : Int) (Dn : Nat) (hD : D = (Dn : Int)) (h0 : 0 < Dn) (d0 : 1 ≤ dc) : Int.tmod (dc / D) 2 = ((dc.toNat / Dn % 2 : Nat) : Int) := by
  obtain ⟨m, rfl⟩ : ∃ m : Nat, dc = (m : Int) := ⟨dc.toNat, by omega⟩
  subst hD
  have e : (m : Int) / (Dn : Int) = ((m / Dn : Nat) : Int) := by simp
  rw [e, Int.toNat_natCast]
  obtain ⟨y, hy⟩ : ∃ y, m / Dn = y := ⟨_, rfl⟩
  rw [hy, Int.tmod_eq_emod_of_nonneg (by omega)]
  omega
section
set_option maxRecDepth 100000
set_option maxHeartbeats 8000000
theorem rPut_no (dc : Int) (q : Option Addr) (n c : Nat) (r l : Nat → Int) (i : Bool) (hn : n ≤ 1000) (w : World) (hp : Pl w (.slice q n c) n r l) (hE : bE dc n r l i ≠ 0) :
    Calls Tryz.prog 19 #[bv dc q n c, .bool i] w fun e w' => e = .returned (.tuple #[sv [], .int .i64 (bE dc n r l i)]) ∧ Below w.heap.size w w' := by
  have HC := Lib.hid (fun V (h : Pl V (.slice q n c) n r l) => rCheck_any dc q n c r l V i hn h)
  obtain ⟨E, hE2⟩ : ∃ E, bE dc n r l i = E := ⟨_, rfl⟩
  rw [hE2] at HC hE ⊢
  have e1 : (E != 0) = true := by simpa using hE
  have HB := Lib.hid ((Below.refl w.heap.size w).alloc (Nat.le_refl _) (.cells #[.int .i64 dc, .slice q n c] 27))
  have HA := Lib.hid (At.new w #[.int .i64 dc, .slice q n c] 27)
  have HP := Lib.hid (hp.below HB.out)
  have k0 := HA.out.cell 0 _ rfl
  have k1 := HA.out.cell 1 _ rfl
  clear hE2 hE hp
  unfold sv
  go_enter Tryz.func19, Tryz.ntmps19
  go_wp2_with (go_at_call 24; refine (HC.out _ HP.out).mono ?_; rintro e w1 ⟨rfl, h1⟩; have HB := Lib.hid (chain HB.out h1); clear h1 k0 k1)
  go_ret2
  exact ⟨rfl, HB.out⟩
-- WALKS
theorem rPut_intra (dc : Int) (q : Option Addr) (n c : Nat) (r l : Nat → Int) (w : World) (hp : Pl w (.slice q n c) n r l) (hT : Tabs w) (hE : bE dc n r l true = 0) :
    Calls Tryz.prog 19 #[bv dc q n c, .bool true] w fun e w' => e = .returned (.tuple #[sv (cs (ptB dc n r l true)), .int .i64 0]) ∧ Below w.heap.size w w' := by
  have hn := ok_n hE
  have HC := Lib.hid (fun V (h : Pl V (.slice q n c) n r l) => rCheck_any dc q n c r l V true (by omega) h)
  rw [hE] at HC
  have HPB := Lib.hid (fun k (hk : k < n) => ok_pair hE hk)
  have hdc := hE
  have HB := Lib.hid ((Below.refl w.heap.size w).alloc (Nat.le_refl _) (.cells #[.int .i64 dc, .slice q n c] 27))
  have HA := Lib.hid (At.new w #[.int .i64 dc, .slice q n c] 27)
  have HP := Lib.hid hp
  have HT := Lib.hid hT
  have k0 := HA.out.cell 0 _ rfl
  have k1 := HA.out.cell 1 _ rfl
  clear hE hp hT
  go_enter Tryz.func19, Tryz.ntmps19
  go_upto_region 4 with (go_at_call 24; refine (HC.out _ (HP.out.below HB.out)).mono ?_; rintro e w1 ⟨rfl, h1⟩; have HB := Lib.hid (chain HB.out h1); have HA := Lib.hid (HA.out.below h1); clear h1 k0 k1)
  have P0 : Hid (PV w dc q n c w1) := Lib.hid ⟨HB.out, HA.out⟩
  clear HA HB
  go_wp2_with fail
  have hdc := ok_dc hdc
  go_loopw [7, 8] (fun s i wr => ∃ k : Nat, k ≤ 8 ∧ ∃ x : Int, x = 7 - (k : Int) ∧ i = .int .i64 x ∧ Hid (s = sv (cs ((bitsL 8 dc.toNat).take k))) ∧ Hid (PV w dc q n c wr)) (fun _ i _ => (intOf i + 1).toNat)
  case atStart => exact ⟨0, by omega, 7, by omega, rfl, Lib.hid rfl, P0⟩
  case round =>
    obtain ⟨k, hk, x, hx, rfl, HS, HU⟩ := hrel
    have hs := HS.out
    subst hs
    clear P0
    by_cases hk8 : k < 8
    · have HL := Lib.hid (bits_take dc.toNat k hk8)
      have ka := HU.out.a.cell 0 _ rfl
      obtain ⟨S, hS, hzS⟩ : ∃ S : ByteArray, sv (cs (List.take k (bitsL 8 dc.toNat))) = .string S ∧ S.size = k := ⟨_, rfl, by rw [ba_size, cs_len, List.length_take, bitsL_len]; omega⟩
      have d0 := hdc.1
      have d1 := hdc.2.1
      rw [hS]
      clear HS
      rcases (by omega : k = 0 ∨ k = 1 ∨ k = 2 ∨ k = 3 ∨ k = 4 ∨ k = 5 ∨ k = 6 ∨ k = 7) with rfl | rfl | rfl | rfl | rfl | rfl | rfl | rfl
      · obtain rfl : x = 7 := by omega
        have tm := tmod_bit dc 128 128 rfl (by decide) d0
        have HNX : Hid (Value.string (S ++ ⟨#[bch (dc.toNat / 128 % 2 == 1)]⟩) = sv (cs (List.take 1 (bitsL 8 dc.toNat)))) := Lib.hid
          ((sv_app2 _ [dc.toNat / 128 % 2 == 1] S ⟨#[bch (dc.toNat / 128 % 2 == 1)]⟩ hS rfl).trans (congrArg (fun x => sv (cs x)) HL.out.symm))
        obtain ⟨y, hy⟩ : ∃ y, dc.toNat / 128 % 2 = y := ⟨_, rfl⟩
        have hy2 : y = 0 ∨ y = 1 := by omega
        rw [hy] at tm HNX
        have h1n := one_new wr (48 + (y : Int)) _ (bch_nat y hy2)
        have HU2 := Lib.hid (HU.out.below ((Below.refl _ _).alloc (Nat.le_refl _) (.cells #[.int .u8 (48 + (y : Int))] 5)))
        obtain ⟨T, hT⟩ : ∃ T : ByteArray, (⟨#[bch (y == 1)]⟩ : ByteArray) = T := ⟨_, rfl⟩
        have hTz : T.size = 1 := by rw [← hT]; rfl
        rw [hT] at h1n HNX
        have tz : (S ++ T).size = 1 := by rw [ByteArray.size_append, hzS, hTz]
        clear hx hk hk8 hn hdc HL hy hT hS
        go_wp2_with fail
        go_roundw
        case rel => exact ⟨1, by omega, 6, by omega, by go_num, HNX, HU2⟩
        case measure => simp [intOf]
      · obtain rfl : x = 6 := by omega
        have tm := tmod_bit dc 64 64 rfl (by decide) d0
        have HNX : Hid (Value.string (S ++ ⟨#[bch (dc.toNat / 64 % 2 == 1)]⟩) = sv (cs (List.take 2 (bitsL 8 dc.toNat)))) := Lib.hid
          ((sv_app2 _ [dc.toNat / 64 % 2 == 1] S ⟨#[bch (dc.toNat / 64 % 2 == 1)]⟩ hS rfl).trans (congrArg (fun x => sv (cs x)) HL.out.symm))
        obtain ⟨y, hy⟩ : ∃ y, dc.toNat / 64 % 2 = y := ⟨_, rfl⟩
        have hy2 : y = 0 ∨ y = 1 := by omega
        rw [hy] at tm HNX
        have h1n := one_new wr (48 + (y : Int)) _ (bch_nat y hy2)
        have HU2 := Lib.hid (HU.out.below ((Below.refl _ _).alloc (Nat.le_refl _) (.cells #[.int .u8 (48 + (y : Int))] 5)))
        obtain ⟨T, hT⟩ : ∃ T : ByteArray, (⟨#[bch (y == 1)]⟩ : ByteArray) = T := ⟨_, rfl⟩
        have hTz : T.size = 1 := by rw [← hT]; rfl
        rw [hT] at h1n HNX
        have tz : (S ++ T).size = 2 := by rw [ByteArray.size_append, hzS, hTz]
        clear hx hk hk8 hn hdc HL hy hT hS
        go_wp2_with fail
        go_roundw
        case rel => exact ⟨2, by omega, 5, by omega, by go_num, HNX, HU2⟩
        case measure => simp [intOf]
      · obtain rfl : x = 5 := by omega
        have tm := tmod_bit dc 32 32 rfl (by decide) d0
        have HNX : Hid (Value.string (S ++ ⟨#[bch (dc.toNat / 32 % 2 == 1)]⟩) = sv (cs (List.take 3 (bitsL 8 dc.toNat)))) := Lib.hid
          ((sv_app2 _ [dc.toNat / 32 % 2 == 1] S ⟨#[bch (dc.toNat / 32 % 2 == 1)]⟩ hS rfl).trans (congrArg (fun x => sv (cs x)) HL.out.symm))
        obtain ⟨y, hy⟩ : ∃ y, dc.toNat / 32 % 2 = y := ⟨_, rfl⟩
        have hy2 : y = 0 ∨ y = 1 := by omega
        rw [hy] at tm HNX
        have h1n := one_new wr (48 + (y : Int)) _ (bch_nat y hy2)
        have HU2 := Lib.hid (HU.out.below ((Below.refl _ _).alloc (Nat.le_refl _) (.cells #[.int .u8 (48 + (y : Int))] 5)))
        obtain ⟨T, hT⟩ : ∃ T : ByteArray, (⟨#[bch (y == 1)]⟩ : ByteArray) = T := ⟨_, rfl⟩
        have hTz : T.size = 1 := by rw [← hT]; rfl
        rw [hT] at h1n HNX
        have tz : (S ++ T).size = 3 := by rw [ByteArray.size_append, hzS, hTz]
        clear hx hk hk8 hn hdc HL hy hT hS
        go_wp2_with fail
        go_roundw
        case rel => exact ⟨3, by omega, 4, by omega, by go_num, HNX, HU2⟩
        case measure => simp [intOf]
      · obtain rfl : x = 4 := by omega
        have tm := tmod_bit dc 16 16 rfl (by decide) d0
        have HNX : Hid (Value.string (S ++ ⟨#[bch (dc.toNat / 16 % 2 == 1)]⟩) = sv (cs (List.take 4 (bitsL 8 dc.toNat)))) := Lib.hid
          ((sv_app2 _ [dc.toNat / 16 % 2 == 1] S ⟨#[bch (dc.toNat / 16 % 2 == 1)]⟩ hS rfl).trans (congrArg (fun x => sv (cs x)) HL.out.symm))
        obtain ⟨y, hy⟩ : ∃ y, dc.toNat / 16 % 2 = y := ⟨_, rfl⟩
        have hy2 : y = 0 ∨ y = 1 := by omega
        rw [hy] at tm HNX
        have h1n := one_new wr (48 + (y : Int)) _ (bch_nat y hy2)
        have HU2 := Lib.hid (HU.out.below ((Below.refl _ _).alloc (Nat.le_refl _) (.cells #[.int .u8 (48 + (y : Int))] 5)))
        obtain ⟨T, hT⟩ : ∃ T : ByteArray, (⟨#[bch (y == 1)]⟩ : ByteArray) = T := ⟨_, rfl⟩
        have hTz : T.size = 1 := by rw [← hT]; rfl
        rw [hT] at h1n HNX
        have tz : (S ++ T).size = 4 := by rw [ByteArray.size_append, hzS, hTz]
        clear hx hk hk8 hn hdc HL hy hT hS
        go_wp2_with fail
        go_roundw
        case rel => exact ⟨4, by omega, 3, by omega, by go_num, HNX, HU2⟩
        case measure => simp [intOf]
      · obtain rfl : x = 3 := by omega
        have tm := tmod_bit dc 8 8 rfl (by decide) d0
        have HNX : Hid (Value.string (S ++ ⟨#[bch (dc.toNat / 8 % 2 == 1)]⟩) = sv (cs (List.take 5 (bitsL 8 dc.toNat)))) := Lib.hid
          ((sv_app2 _ [dc.toNat / 8 % 2 == 1] S ⟨#[bch (dc.toNat / 8 % 2 == 1)]⟩ hS rfl).trans (congrArg (fun x => sv (cs x)) HL.out.symm))
        obtain ⟨y, hy⟩ : ∃ y, dc.toNat / 8 % 2 = y := ⟨_, rfl⟩
        have hy2 : y = 0 ∨ y = 1 := by omega
        rw [hy] at tm HNX
        have h1n := one_new wr (48 + (y : Int)) _ (bch_nat y hy2)
        have HU2 := Lib.hid (HU.out.below ((Below.refl _ _).alloc (Nat.le_refl _) (.cells #[.int .u8 (48 + (y : Int))] 5)))
        obtain ⟨T, hT⟩ : ∃ T : ByteArray, (⟨#[bch (y == 1)]⟩ : ByteArray) = T := ⟨_, rfl⟩
        have hTz : T.size = 1 := by rw [← hT]; rfl
        rw [hT] at h1n HNX
        have tz : (S ++ T).size = 5 := by rw [ByteArray.size_append, hzS, hTz]
        clear hx hk hk8 hn hdc HL hy hT hS
        go_wp2_with fail
        go_roundw
        case rel => exact ⟨5, by omega, 2, by omega, by go_num, HNX, HU2⟩
        case measure => simp [intOf]
      · obtain rfl : x = 2 := by omega
        have tm := tmod_bit dc 4 4 rfl (by decide) d0
        have HNX : Hid (Value.string (S ++ ⟨#[bch (dc.toNat / 4 % 2 == 1)]⟩) = sv (cs (List.take 6 (bitsL 8 dc.toNat)))) := Lib.hid
          ((sv_app2 _ [dc.toNat / 4 % 2 == 1] S ⟨#[bch (dc.toNat / 4 % 2 == 1)]⟩ hS rfl).trans (congrArg (fun x => sv (cs x)) HL.out.symm))
        obtain ⟨y, hy⟩ : ∃ y, dc.toNat / 4 % 2 = y := ⟨_, rfl⟩
        have hy2 : y = 0 ∨ y = 1 := by omega
        rw [hy] at tm HNX
        have h1n := one_new wr (48 + (y : Int)) _ (bch_nat y hy2)
        have HU2 := Lib.hid (HU.out.below ((Below.refl _ _).alloc (Nat.le_refl _) (.cells #[.int .u8 (48 + (y : Int))] 5)))
        obtain ⟨T, hT⟩ : ∃ T : ByteArray, (⟨#[bch (y == 1)]⟩ : ByteArray) = T := ⟨_, rfl⟩
        have hTz : T.size = 1 := by rw [← hT]; rfl
        rw [hT] at h1n HNX
        have tz : (S ++ T).size = 6 := by rw [ByteArray.size_append, hzS, hTz]
        clear hx hk hk8 hn hdc HL hy hT hS
        go_wp2_with fail
        go_roundw
        case rel => exact ⟨6, by omega, 1, by omega, by go_num, HNX, HU2⟩
        case measure => simp [intOf]
      · obtain rfl : x = 1 := by omega
        have tm := tmod_bit dc 2 2 rfl (by decide) d0
        have HNX : Hid (Value.string (S ++ ⟨#[bch (dc.toNat / 2 % 2 == 1)]⟩) = sv (cs (List.take 7 (bitsL 8 dc.toNat)))) := Lib.hid
          ((sv_app2 _ [dc.toNat / 2 % 2 == 1] S ⟨#[bch (dc.toNat / 2 % 2 == 1)]⟩ hS rfl).trans (congrArg (fun x => sv (cs x)) HL.out.symm))
        obtain ⟨y, hy⟩ : ∃ y, dc.toNat / 2 % 2 = y := ⟨_, rfl⟩
        have hy2 : y = 0 ∨ y = 1 := by omega
        rw [hy] at tm HNX
        have h1n := one_new wr (48 + (y : Int)) _ (bch_nat y hy2)
        have HU2 := Lib.hid (HU.out.below ((Below.refl _ _).alloc (Nat.le_refl _) (.cells #[.int .u8 (48 + (y : Int))] 5)))
        obtain ⟨T, hT⟩ : ∃ T : ByteArray, (⟨#[bch (y == 1)]⟩ : ByteArray) = T := ⟨_, rfl⟩
        have hTz : T.size = 1 := by rw [← hT]; rfl
        rw [hT] at h1n HNX
        have tz : (S ++ T).size = 7 := by rw [ByteArray.size_append, hzS, hTz]
        clear hx hk hk8 hn hdc HL hy hT hS
        go_wp2_with fail
        go_roundw
        case rel => exact ⟨7, by omega, 0, by omega, by go_num, HNX, HU2⟩
        case measure => simp [intOf]
      · obtain rfl : x = 0 := by omega
        have tm := tmod_bit dc 1 1 rfl (by decide) d0
        rw [Int.ediv_one] at tm
        have HNX : Hid (Value.string (S ++ ⟨#[bch (dc.toNat / 1 % 2 == 1)]⟩) = sv (cs (List.take 8 (bitsL 8 dc.toNat)))) := Lib.hid
          ((sv_app2 _ [dc.toNat / 1 % 2 == 1] S ⟨#[bch (dc.toNat / 1 % 2 == 1)]⟩ hS rfl).trans (congrArg (fun x => sv (cs x)) HL.out.symm))
        obtain ⟨y, hy⟩ : ∃ y, dc.toNat / 1 % 2 = y := ⟨_, rfl⟩
        have hy2 : y = 0 ∨ y = 1 := by omega
        rw [hy] at tm HNX
        have h1n := one_new wr (48 + (y : Int)) _ (bch_nat y hy2)
        have HU2 := Lib.hid (HU.out.below ((Below.refl _ _).alloc (Nat.le_refl _) (.cells #[.int .u8 (48 + (y : Int))] 5)))
        obtain ⟨T, hT⟩ : ∃ T : ByteArray, (⟨#[bch (y == 1)]⟩ : ByteArray) = T := ⟨_, rfl⟩
        have hTz : T.size = 1 := by rw [← hT]; rfl
        rw [hT] at h1n HNX
        have tz : (S ++ T).size = 8 := by rw [ByteArray.size_append, hzS, hTz]
        clear hx hk hk8 hn hdc HL hy hT hS
        go_wp2_with fail
        go_roundw
        case rel => exact ⟨8, by omega, -1, by omega, by go_num, HNX, HU2⟩
        case measure => simp [intOf]
    · obtain rfl : k = 8 := by omega
      obtain rfl : x = -1 := by omega
      have HU0 := HU
      have HS0 : Hid (sv (cs ((bitsL 8 dc.toNat).take 8)) = sv (cs (dcL dc true ++ TL false r l 0))) := Lib.hid (congrArg (fun x => sv (cs x)) (by
          rw [List.take_of_length_le (by rw [bitsL_len]; exact Nat.le_refl _)]
          exact (List.append_nil _).symm))
      have g1 := HU0.out.a.cell 1 _ rfl
      clear hx hk hk8 hdc HU HS
      go_wp2_with fail
      go_loopw [7, 9] (fun s i wr => ∃ k : Nat, k ≤ n ∧ i = .int .i64 k ∧ Hid (s = sv (cs (dcL dc true ++ TL false r l k))) ∧ Hid (PV w dc q n c wr)) (fun _ i _ => n - (intOf i).toNat)
      case atStart => exact ⟨0, by omega, rfl, HS0, HU0⟩
      case round =>
        obtain ⟨k, hk, rfl, HS, HU⟩ := hrel
        have hs := HS.out
        subst hs
        clear HU0 g1 HS HS0
        have g1 := HU.out.a.cell 1 _ rfl
        obtain ⟨S, hS, hzS⟩ : ∃ S : ByteArray, sv (cs (dcL dc true ++ TL false r l k)) = .string S ∧ S.size = (dcL dc true ++ TL false r l k).length := ⟨_, rfl, by rw [ba_size, cs_len]⟩
        rw [List.length_append, dcL_len] at hzS
        have hlen := TL_len false r l k
        obtain ⟨zs, hzs⟩ : ∃ m, S.size = m := ⟨_, rfl⟩
        have hz2 : zs ≤ 2000 := by
          by_cases h : true = true
          · rw [if_pos h] at hzS; omega
          · rw [if_neg h] at hzS; omega
        clear hzS hlen
        by_cases hkn : k < n
        · have kb : (k : Int) < (n : Int) := by omega
          have ek : wrap64 ((k : Int) + 1) = (k : Int) + 1 := w64 (by omega)
          obtain ⟨a', c', e, hnc, hcm, h3⟩ := id HP.out
          obtain ⟨rfl, rfl⟩ : q = a' ∧ c = c' := by cases e; exact ⟨rfl, rfl⟩
          rcases h3 with h0 | ⟨pb, po, rfl, hlt, hI⟩
          · omega
          have HPK := HPB.out k hkn
          have HPUT := Lib.hid (fun W h => rPut_any (r k) (l k) (false && decide (k = 0)) W h)
          rw [HPK, if_pos rfl, if_pos rfl, putL_cs] at HPUT
          have LP := put_len (false && decide (k = 0)) (r k) (l k)
          have hU : ∃ U : ByteArray, sv (cs (putB (false && decide (k = 0)) (r k) (l k))) = .string U ∧ U.size = (putB (false && decide (k = 0)) (r k) (l k)).length := ⟨_, rfl, by rw [ba_size, cs_len]⟩
          obtain ⟨U, hU, hzU⟩ := hU
          rw [hU] at HPUT
          have HNX : Hid (Value.string (S ++ U) = sv (cs (dcL dc true ++ TL false r l (k + 1)))) := Lib.hid (by
            rw [sv_app2 _ _ S U hS hU]
            exact congrArg (fun x => sv (cs x)) (List.append_assoc _ _ _))
          have x0 := (HU.out.bel.cell (p := ⟨pb, po + k * 2, none⟩) hlt).trans (hI k hkn).1
          have x1 := (HU.out.bel.cell (p := ⟨pb, po + k * 2 + 1, none⟩) hlt).trans (hI k hkn).2
          unfold prV at HPUT
          obtain ⟨rv, hr⟩ : ∃ x, r k = x := ⟨_, rfl⟩
          obtain ⟨lv, hl⟩ : ∃ x, l k = x := ⟨_, rfl⟩
          rw [hr] at x0 HPUT
          rw [hl] at x1 HPUT
          obtain ⟨zu, hzu⟩ : ∃ m, U.size = m := ⟨_, rfl⟩
          have hzU2 : zu ≤ 20 := by omega
          have tz : (S ++ U).size = zs + zu := by rw [ByteArray.size_append, hzs, hzu]
          rw [hS]
          clear hr hl hU hS hzU LP HPK hI hlt hnc hcm e
          obtain ⟨fb, hfb⟩ : ∃ b : Bool, decide (k = 0) = b := ⟨_, rfl⟩
          have hk0 : ((k : Int) == 0) = fb := by rw [← hfb]; by_cases h : k = 0 <;> simp [h]
          rw [hfb] at HPUT
          clear hfb
          cases fb
          all_goals
            simp only [Bool.false_and, Bool.true_and] at HPUT
            go_wp2_with (go_at_call 48; refine (HPUT.out _ (HT.out.below HU.out.bel)).mono ?_; rintro e w3 ⟨rfl, hb⟩; have HU2 := Lib.hid (HU.out.below hb); clear hb x0 x1 g1)
            go_roundw
            case rel => exact ⟨k + 1, by omega, by go_num, HNX, HU2⟩
            case measure => simp [intOf]; omega
        · obtain rfl : k = n := by omega
          have HFIN := Lib.hid (show Value.string (S ++ ⟨#[49, 48]⟩) = sv (cs (ptB dc k r l true)) from by
            rw [sv_app2 _ _ S _ hS (show sv (cs [true, false]) = .string ⟨#[49, 48]⟩ from rfl)]
            exact congrArg (fun x => sv (cs x)) (List.append_assoc _ _ _))
          have tz : (S ++ ⟨#[49, 48]⟩).size = zs + 2 := by rw [ByteArray.size_append, hzs]; rfl
          rw [hS]
          clear hS hk hn
          go_wp2_with fail
          go_ret2
          exact ⟨by rw [← HFIN.out]; rfl, HU.out.bel⟩
theorem rPut_inter (dc : Int) (q : Option Addr) (n c : Nat) (r l : Nat → Int) (w : World) (hp : Pl w (.slice q n c) n r l) (hT : Tabs w) (hE : bE dc n r l false = 0) :
    Calls Tryz.prog 19 #[bv dc q n c, .bool false] w fun e w' => e = .returned (.tuple #[sv (cs (ptB dc n r l false)), .int .i64 0]) ∧ Below w.heap.size w w' := by
  have hn := ok_n hE
  have HC := Lib.hid (fun V (h : Pl V (.slice q n c) n r l) => rCheck_any dc q n c r l V false (by omega) h)
  rw [hE] at HC
  have HPB := Lib.hid (fun k (hk : k < n) => ok_pair hE hk)
  have hdc := hE
  have HB := Lib.hid ((Below.refl w.heap.size w).alloc (Nat.le_refl _) (.cells #[.int .i64 dc, .slice q n c] 27))
  have HA := Lib.hid (At.new w #[.int .i64 dc, .slice q n c] 27)
  have HP := Lib.hid hp
  have HT := Lib.hid hT
  have k0 := HA.out.cell 0 _ rfl
  have k1 := HA.out.cell 1 _ rfl
  clear hE hp hT
  go_enter Tryz.func19, Tryz.ntmps19
  go_upto_region 4 with (go_at_call 24; refine (HC.out _ (HP.out.below HB.out)).mono ?_; rintro e w1 ⟨rfl, h1⟩; have HB := Lib.hid (chain HB.out h1); have HA := Lib.hid (HA.out.below h1); clear h1 k0 k1)
  have P0 : Hid (PV w dc q n c w1) := Lib.hid ⟨HB.out, HA.out⟩
  clear HA HB
  go_wp2_with fail
  clear hdc
  go_loopw [7, 8] (fun s i wr => s = sv [] ∧ i = .int .i64 7 ∧ Hid (PV w dc q n c wr)) (fun _ i _ => 0)
  case atStart => exact ⟨rfl, rfl, P0⟩
  case round =>
    obtain ⟨rfl, rfl, HU0⟩ := hrel
    have HS0 : Hid (sv [] = sv (cs (dcL dc false ++ TL true r l 0))) := Lib.hid rfl
    have g1 := HU0.out.a.cell 1 _ rfl
    clear P0
    go_wp2_with fail
    go_loopw [7, 9] (fun s i wr => ∃ k : Nat, k ≤ n ∧ i = .int .i64 k ∧ Hid (s = sv (cs (dcL dc false ++ TL true r l k))) ∧ Hid (PV w dc q n c wr)) (fun _ i _ => n - (intOf i).toNat)
    case atStart => exact ⟨0, by omega, rfl, HS0, HU0⟩
    case round =>
      obtain ⟨k, hk, rfl, HS, HU⟩ := hrel
      have hs := HS.out
      subst hs
      clear HU0 g1 HS HS0
      have g1 := HU.out.a.cell 1 _ rfl
      obtain ⟨S, hS, hzS⟩ : ∃ S : ByteArray, sv (cs (dcL dc false ++ TL true r l k)) = .string S ∧ S.size = (dcL dc false ++ TL true r l k).length := ⟨_, rfl, by rw [ba_size, cs_len]⟩
      rw [List.length_append, dcL_len] at hzS
      have hlen := TL_len true r l k
      obtain ⟨zs, hzs⟩ : ∃ m, S.size = m := ⟨_, rfl⟩
      have hz2 : zs ≤ 2000 := by
        by_cases h : false = true
        · rw [if_pos h] at hzS; omega
        · rw [if_neg h] at hzS; omega
      clear hzS hlen
      by_cases hkn : k < n
      · have kb : (k : Int) < (n : Int) := by omega
        have ek : wrap64 ((k : Int) + 1) = (k : Int) + 1 := w64 (by omega)
        obtain ⟨a', c', e, hnc, hcm, h3⟩ := id HP.out
        obtain ⟨rfl, rfl⟩ : q = a' ∧ c = c' := by cases e; exact ⟨rfl, rfl⟩
        rcases h3 with h0 | ⟨pb, po, rfl, hlt, hI⟩
        · omega
        have HPK := HPB.out k hkn
        have HPUT := Lib.hid (fun W h => rPut_any (r k) (l k) (true && decide (k = 0)) W h)
        rw [HPK, if_pos rfl, if_pos rfl, putL_cs] at HPUT
        have LP := put_len (true && decide (k = 0)) (r k) (l k)
        have hU : ∃ U : ByteArray, sv (cs (putB (true && decide (k = 0)) (r k) (l k))) = .string U ∧ U.size = (putB (true && decide (k = 0)) (r k) (l k)).length := ⟨_, rfl, by rw [ba_size, cs_len]⟩
        obtain ⟨U, hU, hzU⟩ := hU
        rw [hU] at HPUT
        have HNX : Hid (Value.string (S ++ U) = sv (cs (dcL dc false ++ TL true r l (k + 1)))) := Lib.hid (by
          rw [sv_app2 _ _ S U hS hU]
          exact congrArg (fun x => sv (cs x)) (List.append_assoc _ _ _))
        have x0 := (HU.out.bel.cell (p := ⟨pb, po + k * 2, none⟩) hlt).trans (hI k hkn).1
        have x1 := (HU.out.bel.cell (p := ⟨pb, po + k * 2 + 1, none⟩) hlt).trans (hI k hkn).2
        unfold prV at HPUT
        obtain ⟨rv, hr⟩ : ∃ x, r k = x := ⟨_, rfl⟩
        obtain ⟨lv, hl⟩ : ∃ x, l k = x := ⟨_, rfl⟩
        rw [hr] at x0 HPUT
        rw [hl] at x1 HPUT
        obtain ⟨zu, hzu⟩ : ∃ m, U.size = m := ⟨_, rfl⟩
        have hzU2 : zu ≤ 20 := by omega
        have tz : (S ++ U).size = zs + zu := by rw [ByteArray.size_append, hzs, hzu]
        rw [hS]
        clear hr hl hU hS hzU LP HPK hI hlt hnc hcm e
        obtain ⟨fb, hfb⟩ : ∃ b : Bool, decide (k = 0) = b := ⟨_, rfl⟩
        have hk0 : ((k : Int) == 0) = fb := by rw [← hfb]; by_cases h : k = 0 <;> simp [h]
        rw [hfb] at HPUT
        clear hfb
        cases fb
        all_goals
          simp only [Bool.false_and, Bool.true_and] at HPUT
          go_wp2_with (go_at_call 48; refine (HPUT.out _ (HT.out.below HU.out.bel)).mono ?_; rintro e w3 ⟨rfl, hb⟩; have HU2 := Lib.hid (HU.out.below hb); clear hb x0 x1 g1)
          go_roundw
          case rel => exact ⟨k + 1, by omega, by go_num, HNX, HU2⟩
          case measure => simp [intOf]; omega
      · obtain rfl : k = n := by omega
        have HFIN := Lib.hid (show Value.string (S ++ ⟨#[49, 48]⟩) = sv (cs (ptB dc k r l false)) from by
          rw [sv_app2 _ _ S _ hS (show sv (cs [true, false]) = .string ⟨#[49, 48]⟩ from rfl)]
          exact congrArg (fun x => sv (cs x)) (List.append_assoc _ _ _))
        have tz : (S ++ ⟨#[49, 48]⟩).size = zs + 2 := by rw [ByteArray.size_append, hzs]; rfl
        rw [hS]
        clear hS hk hn
        go_wp2_with fail
        go_ret2
        exact ⟨by rw [← HFIN.out]; rfl, HU.out.bel⟩
theorem rPut_any2 (dc : Int) (q : Option Addr) (n c : Nat) (r l : Nat → Int) (i : Bool) (hn : n ≤ 1000) (w : World) (hp : Pl w (.slice q n c) n r l) (hT : Tabs w) :
    Calls Tryz.prog 19 #[bv dc q n c, .bool i] w fun e w' => e = .returned (.tuple #[if bE dc n r l i = 0 then sv (cs (ptB dc n r l i)) else sv [], .int .i64 (bE dc n r l i)]) ∧ Below w.heap.size w w' := by
  by_cases h : bE dc n r l i = 0
  · rw [if_pos h, h]
    cases i
    · exact rPut_inter dc q n c r l w hp hT h
    · exact rPut_intra dc q n c r l w hp hT h
  · rw [if_neg h]
    exact rPut_no dc q n c r l i hn w hp h
end
end Dk
end Go.Proofs.YtpibeocngkjolaaGreatDoor
