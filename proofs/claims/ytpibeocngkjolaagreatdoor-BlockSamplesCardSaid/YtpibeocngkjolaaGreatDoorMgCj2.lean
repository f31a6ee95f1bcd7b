/- CoeffBack. | CoeffList. -/
import Derived.Test.YtpibeocngkjolaaGreatDoorMgChU
import Derived.Test.YtpibeocngkjolaaGreatDoorMgCiK
import Derived.Test.YtpibeocngkjolaaGreatDoorMgDqY
import Derived.Deep.DeepCutAuto
import Derived.Deep.RegionHeld3
set_option linter.unusedVariables false
set_option linter.unusedSimpArgs false

namespace Go.Proofs.YtpibeocngkjolaaGreatDoor
open Go.RowKit
set_option linter.unusedSimpArgs false
set_option linter.unusedVariables false
namespace Cf
theorem pre_ext {l S : List Bool} (hl : l.length ≤ S.length) (h : ∀ i, i < l.length → S.getD i false = l.getD i false) : l <+: S := by
  rw [List.prefix_iff_eq_take]
  apply List.ext_getElem
  · simp; omega
  · intro i h1 h2
    have := h i h1
    rw [List.getD_eq_getElem?_getD, List.getD_eq_getElem?_getD, List.getElem?_eq_getElem (by omega), List.getElem?_eq_getElem h1] at this
    simp at this ⊢
    exact this.symm
/-- what stands at a place of a joined text. -/
theorem seen_at {F : Nat → Int} {K p n : Nat} {L : List Bool} (hF : ∀ i, i < L.length → bitI F i = b01 (L.getD i false)) {l : List Bool} (hl : l <+: L.drop p) (hn : l.length ≤ n) : l <+: seenL F p n := by
  refine pre_ext (by rw [seenL_len]; exact hn) (fun i hi => ?_)
  obtain ⟨t, ht⟩ := hl
  have hlen : p + i < L.length := by
    have := congrArg List.length ht
    simp at this
    omega
  have e1 : (seenL F p n).getD i false = (bitI F (p + i) == 1) := by
    unfold seenL
    rw [List.getD_eq_getElem?_getD]
    simp [show i < n by omega]
  have e2 : L.getD (p + i) false = l.getD i false := by
    have e3 : (L.drop p)[i]? = l[i]? := by rw [← ht, List.getElem?_append_left hi]
    rw [List.getElem?_drop] at e3
    rw [List.getD_eq_getElem?_getD, List.getD_eq_getElem?_getD, e3]
  rw [e1, hF _ hlen, e2]
  cases l.getD i false <;> rfl
theorem jn_bit (l : List Bool) (g : Nat → Int) (m i : Nat) (h : i < l.length) : bitI (byV (jnF l g) (l.length + m)) i = b01 (l.getD i false) := by
  rw [bit_byV]
  unfold hB jnF
  rw [if_pos (by omega), if_pos h]
  cases l.getD i false <;> rfl
theorem getF_0 (F : Nat → Int) (N : Nat) (first : Bool) : getF F N 0 first = getB first (S20 F N 0) := by
  unfold getF S20 seenN
  rw [if_neg (by omega), if_neg (by omega)]
  rfl
theorem bytes_pre (l : List Bool) (g : Nat → Int) (m : Nat) (h : l.length ≤ 20) : l <+: S20 (byV (jnF l g) (l.length + m)) ((l.length + m + 7) / 8) 0 := by
  unfold S20
  exact seen_at (K := 0) (L := l) (fun i hi => jn_bit l g m i hi) (by rw [List.drop_zero]; exact List.prefix_refl _) (by omega)
theorem S20_le (F : Nat → Int) (N q : Nat) : (S20 F N q).length ≤ 20 := by rw [S20_len]; omega
theorem put_bytes (first : Bool) {r l : Int} (g : Nat → Int) (m : Nat) (hp : pairB r l = true) : getF (byV (jnF (putB first r l) g) ((putB first r l).length + m)) (((putB first r l).length + m + 7) / 8) 0 first = ⟨r, l, false, ((putB first r l).length : Nat), 0⟩ := by
  rw [getF_0]
  exact put_got hp (S20_le _ _ _) (bytes_pre _ g m (put_len first r l).2)
theorem esc_bytes (first : Bool) {r l : Int} (g : Nat → Int) (m : Nat) (hp : pairB r l = true) : getF (byV (jnF (escL r l) g) ((escL r l).length + m)) (((escL r l).length + m + 7) / 8) 0 first = ⟨r, l, false, 20, 0⟩ := by
  rw [getF_0]
  exact esc_got hp (S20_le _ _ _) (bytes_pre _ g m (by rw [escL_len]; exact Nat.le_refl _))
/-- what holds in CoeffBack. -/
structure BK (w : World) (B : Nat) (r l : Int) (v : Value) (m : Nat) (g : Nat → Int) (V : World) : Prop where
  t : Tabs V
  b : Below w.heap.size w V
  c0 : V.cell? ⟨B, 0, none⟩ = some (.int .i64 r)
  c1 : V.cell? ⟨B, 1, none⟩ = some (.int .i64 l)
  s : Sl .i64 V v m g
theorem BK.below {w V V' : World} {B : Nat} {r l : Int} {v : Value} {m : Nat} {g : Nat → Int} (h : BK w B r l v m g V) (hb : Below V.heap.size V V') : BK w B r l v m g V' :=
  ⟨h.t.below hb, chain h.b hb, (hb.cell (World.block_lt_of_cell? _ _ h.c0)).trans h.c0, (hb.cell (World.block_lt_of_cell? _ _ h.c1)).trans h.c1, h.s.below hb⟩
theorem BK.new {w V : World} {r l : Int} {v : Value} {m : Nat} {g : Nat → Int} (h : AW w V) (hs : Sl .i64 V v m g) : BK w V.heap.size r l v m g (V.alloc (.cells #[.int .i64 r, .int .i64 l] 69)) := by
  have hb : Below V.heap.size V (V.alloc (.cells #[.int .i64 r, .int .i64 l] 69)) := (Below.refl _ V).alloc (Nat.le_refl _) _
  have hn := heap_alloc_new V (.cells #[.int .i64 r, .int .i64 l] 69)
  exact ⟨h.t.below hb, chain h.b hb, cell_row hn (i := 0) rfl, cell_row hn (i := 1) rfl, hs.below hb⟩
theorem byV_ok (f : Nat → Int) (k : Nat) : ∀ j n, j < n → 0 ≤ byV f k j ∧ byV f k j ≤ 255 := fun j _ _ => byV_bd f k j
theorem Arr.slB {w : World} {g N : Nat} {F : Nat → Int} (h : Arr w .u8 g N F) (hg : g < w.heap.size) (hN : N ≤ maxLen) : Sl .u8 w (.slice (some ⟨g, 0, none⟩) N N) N F := ⟨_, N, rfl, Nat.le_refl _, hN, .inr ⟨g, 0, rfl, hg, h.ints⟩⟩
section
set_option maxRecDepth 100000
set_option maxHeartbeats 4000000
end
end Cf
end Go.Proofs.YtpibeocngkjolaaGreatDoor

namespace Go.Proofs.YtpibeocngkjolaaGreatDoor
open Go.RowKit
set_option linter.unusedSimpArgs false
set_option linter.unusedVariables false
namespace Cf
/-- the k-th text. -/
def piece (first : Bool) (R L : Nat → Int) (k : Nat) : List Bool := putB (first && decide (k = 0)) (R k) (L k)
/-- the first k texts. -/
def TL (first : Bool) (R L : Nat → Int) : Nat → List Bool
  | 0 => []
  | k + 1 => TL first R L k ++ piece first R L k
theorem TL_len (first : Bool) (R L : Nat → Int) : ∀ k, (TL first R L k).length ≤ 20 * k
  | 0 => by simp [TL]
  | k + 1 => by
    have := TL_len first R L k
    have := (put_len (first && decide (k = 0)) (R k) (L k)).2
    simp only [TL, piece, List.length_append]
    omega
theorem TL_pre (first : Bool) (R L : Nat → Int) (k : Nat) : ∀ n, k ≤ n → TL first R L k <+: TL first R L n
  | 0, h => by obtain rfl : k = 0 := by omega
               exact List.prefix_refl _
  | n + 1, h => by
    by_cases e : k = n + 1
    · rw [e]
      exact List.prefix_refl _
    · exact (TL_pre first R L k n (by omega)).trans (List.prefix_append _ _)
theorem TL_at (first : Bool) (R L : Nat → Int) (e : List Bool) {k n : Nat} (h : k < n) : piece first R L k <+: (TL first R L n ++ e).drop (TL first R L k).length := by
  obtain ⟨t, ht⟩ := TL_pre first R L (k + 1) n h
  rw [← ht]
  refine ⟨t ++ e, ?_⟩
  simp [TL, List.append_assoc]
/-- the pairs' cells. -/
def prC (R L : Nat → Int) (k : Nat) : List Value := (List.range k).flatMap fun i => [.int .i64 (R i), .int .i64 (L i)]
theorem prC_succ (R L : Nat → Int) (k : Nat) : prC R L (k + 1) = prC R L k ++ [.int .i64 (R k), .int .i64 (L k)] := by
  unfold prC
  rw [List.range_succ, List.flatMap_append]
  simp
theorem prC_len (R L : Nat → Int) : ∀ k, (prC R L k).length = k * 2
  | 0 => rfl
  | k + 1 => by rw [prC_succ, List.length_append, prC_len R L k]; simp; omega
theorem prC_get (R L : Nat → Int) (i : Nat) : ∀ k, i < k → (prC R L k)[i * 2]? = some (.int .i64 (R i)) ∧ (prC R L k)[i * 2 + 1]? = some (.int .i64 (L i))
  | 0, h => by omega
  | k + 1, h => by
    rw [prC_succ]
    have hl := prC_len R L k
    by_cases e : i = k
    · subst e
      rw [List.getElem?_append_right (by omega), List.getElem?_append_right (by omega), hl]
      simp
    · have := prC_get R L i k (by omega)
      rw [List.getElem?_append_left (by omega), List.getElem?_append_left (by omega)]
      exact this
/-- what Get finds at the k-th text's place, and at the end. -/
theorem get_piece {first : Bool} {R L : Nat → Int} {k n : Nat} (hk : k < n) (hp : pairB (R k) (L k) = true) (g : Nat → Int) (e : List Bool) (he : e = [true, false]) :
    getF (byV (jnF (TL first R L n ++ e) g) ((TL first R L n ++ e).length + 0)) (((TL first R L n ++ e).length + 0 + 7) / 8) ((TL first R L k).length : Nat) (first && decide (k = 0)) = ⟨R k, L k, false, ((piece first R L k).length : Nat), 0⟩ := by
  have hat := TL_at first R L e hk
  have hpl := put_len (first && decide (k = 0)) (R k) (L k)
  have hle := hat.length_le
  rw [List.length_drop] at hle
  have hq : (TL first R L k).length + (piece first R L k).length ≤ (TL first R L n ++ e).length := by
    have : 1 ≤ (piece first R L k).length := by unfold piece; omega
    omega
  unfold getF
  rw [if_neg (by omega), if_neg (by omega), Int.toNat_natCast]
  have hpre : piece first R L k <+: seenL (byV (jnF (TL first R L n ++ e) g) ((TL first R L n ++ e).length + 0)) (TL first R L k).length (seenN (((TL first R L n ++ e).length + 0 + 7) / 8) (TL first R L k).length) :=
    seen_at (K := 0) (L := TL first R L n ++ e) (fun i hi => jn_bit _ g 0 i hi) hat (by unfold seenN; have : (piece first R L k).length ≤ 20 := hpl.2; omega)
  exact put_got hp (by rw [seenL_len]; unfold seenN; omega) hpre
theorem get_fin {first : Bool} {R L : Nat → Int} {n : Nat} (g : Nat → Int) (e : List Bool) (he : e = [true, false]) :
    getF (byV (jnF (TL first R L n ++ e) g) ((TL first R L n ++ e).length + 0)) (((TL first R L n ++ e).length + 0 + 7) / 8) ((TL first R L n).length : Nat) false = ⟨0, 0, true, 2, 0⟩ := by
  have hq : (TL first R L n).length + 2 = (TL first R L n ++ e).length := by rw [he]; simp
  unfold getF
  rw [if_neg (by omega), if_neg (by omega), Int.toNat_natCast]
  have hpre : [true, false] <+: seenL (byV (jnF (TL first R L n ++ e) g) ((TL first R L n ++ e).length + 0)) (TL first R L n).length (seenN (((TL first R L n ++ e).length + 0 + 7) / 8) (TL first R L n).length) :=
    seen_at (K := 0) (L := TL first R L n ++ e) (fun i hi => jn_bit _ g 0 i hi) (by rw [List.drop_left' rfl, he]; exact List.prefix_refl _) (by unfold seenN; simp only [List.length_cons, List.length_nil]; omega)
  exact fin_got hpre
end Cf
end Go.Proofs.YtpibeocngkjolaaGreatDoor
