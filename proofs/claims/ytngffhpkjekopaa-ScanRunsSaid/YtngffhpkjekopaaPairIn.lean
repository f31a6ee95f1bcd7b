/- Slices of pairs that came in; a copy of one. -/
import Derived.Test.YtngffhpkjekopaaSameP
import Derived.Test.YtngffhpkjekopaaRunsP
import Derived.Deep.SlicePairs
import Derived.Deep.AppendLies
namespace Go.Proofs.Ytngffhpkjekopaa
open Go.RowKit Go.ChangeShapes Go.WideShapes

/-- what is known of a slice of pairs that came in. -/
def IsPl (w : World) (a : Option Addr) (len cap : Nat) (r l : Nat → Int) : Prop :=
  (a = none ∧ len = 0 ∧ cap = 0) ∨ ∃ x, a = some x ∧ len ≤ cap ∧ cap ≤ maxLen ∧ ∀ i, i < len → w.cell? (x.add (i * 2)) = some (.int .i64 (r i)) ∧ w.cell? (x.add (i * 2 + 1)) = some (.int .i64 (l i))
theorem IsPl.pl {w : World} {a : Option Addr} {len cap : Nat} {r l : Nat → Int} (h : IsPl w a len cap r l) : Pl w (.slice a len cap) len r l := by
  rcases h with ⟨rfl, rfl, rfl⟩ | ⟨⟨b, o, sp⟩, rfl, hl, hm, hc⟩
  · exact ⟨none, 0, rfl, Nat.le_refl _, Nat.zero_le _, .inl ⟨rfl, fun _ => rfl⟩⟩
  · refine ⟨_, cap, rfl, hl, hm, ?_⟩
    by_cases h0 : len = 0
    · exact .inl ⟨h0, fun h => by cases h⟩
    · have h1 := (hc 0 (by omega)).1
      have hsp : sp = none := by simpa [Addr.add] using World.cell?_spot h1
      subst hsp
      have ad : ∀ j, (⟨b, o, none⟩ : Addr).add j = ⟨b, o + j, none⟩ := fun j => by unfold Addr.add; split <;> simp_all
      refine .inr ⟨b, o, rfl, World.block_lt_of_cell? w _ h1, fun i hi => ?_⟩
      have := hc i (by omega)
      rw [ad, ad] at this
      exact this
theorem open_pl {H : Type} {enc : TypeId × Value → H} {P : Program} {w : World} {base : Nat} {spare : Nat → Bool} {held : Bool} {t e : TypeId} {f0 f1 : Field} {fuel : Nat} {x : DataW H × List MemPlace} {a : Option Addr} {len cap : Nat}
    (ht : P.underlying t = some (.slice e)) (he : P.underlying e = some (.struct #[f0, f1])) (ce : P.cellsOf e = 2) (o0 : f0.offset = 0) (o1 : f1.offset = 1) (c0 : P.cellsOf f0.type = 1) (c1 : P.cellsOf f1.type = 1)
    (i0 : P.underlying f0.type = some (.int .i64)) (i1 : P.underlying f1.type = some (.int .i64))
    {cs : List Value} (hcs : cs = [.slice a len cap]) (h : DataW.trod enc P w base spare held fuel t cs = some x) : ∃ r l, IsPl w a len cap r l := by
  subst hcs
  rcases Go.Deep.open_slice_pairs ht he ce o0 o1 c0 c1 h with ⟨hcs, _⟩ | ⟨y, ln, cp, m, n, V0, V1, D0, D1, P0, P1, hcs, _, hl, hm, hmm, _, hall⟩
  · simp at hcs
    obtain ⟨rfl, rfl, rfl⟩ := hcs
    exact ⟨fun _ => 0, fun _ => 0, .inl ⟨rfl, rfl, rfl⟩⟩
  · simp at hcs
    obtain ⟨rfl, rfl, rfl⟩ := hcs
    have hm' : len ≤ m := by rw [hmm]; split <;> omega
    have each : ∀ i, i < m → ∃ q : Int × Int, w.cell? (y.add (i * 2)) = some (.int .i64 q.1) ∧ w.cell? (y.add (i * 2 + 1)) = some (.int .i64 q.2) := by
      intro i hi
      obtain ⟨e0, e1, g0, g1⟩ := hall i hi
      obtain ⟨n0, h0, _⟩ := DataW.trod_int i0 g0
      obtain ⟨n1, h1, _⟩ := DataW.trod_int i1 g1
      simp at h0 h1
      exact ⟨(n0, n1), by rw [e0, h0], by rw [e1, h1]⟩
    obtain ⟨q, hq⟩ := Go.Deep.choose_lt each
    exact ⟨fun i => (q i).1, fun i => (q i).2, .inr ⟨y, rfl, hl, hm, fun i hi => hq i (by omega)⟩⟩
namespace Sc
theorem news_pairs {w : World} {b o n : Nat} {r l : Nat → Int} (h : Pairs w b o n r l) : ∀ j u, (pcs r l n)[j]? = some u → w.cell? ((⟨b, o, none⟩ : Addr).add j) = some u := by
  intro j u hu
  have hj : j < n * 2 := by
    have := (List.getElem?_eq_some_iff.1 hu).1
    rwa [pcs_len] at this
  rw [Addr.add_lit]
  obtain ⟨p1, p2⟩ := pcs_get r l n (j / 2) (by omega)
  by_cases h2 : j % 2 = 0
  · have ej : j = j / 2 * 2 := by omega
    rw [ej] at hu
    rw [p1] at hu
    rw [ej, (h (j / 2) (by omega)).1, ← hu]
  · have ej : j = j / 2 * 2 + 1 := by omega
    rw [ej] at hu
    rw [p2] at hu
    rw [ej, ← Nat.add_assoc, (h (j / 2) (by omega)).2, ← hu]
theorem pcs_one (r l : Nat → Int) : ∀ n, ∀ u ∈ pcs r l n, u.oneCell' = true
  | 0, u, h => by simp [pcs] at h
  | n + 1, u, h => by
    simp only [pcs, List.mem_append, List.mem_cons, List.not_mem_nil, or_false] at h
    rcases h with h | rfl | rfl
    · exact pcs_one r l n u h
    · rfl
    · rfl
/-- a copy of a list of pairs: a row of the call's own. -/
def CopiedP (w : World) (n : Nat) (r l : Nat → Int) (v : Value) (w' : World) : Prop :=
  ∃ g c, v = .slice (some ⟨g, 0, none⟩) n c ∧ w.heap.size ≤ g ∧ g < w'.heap.size ∧ n ≤ c ∧ c ≤ maxLen ∧ Pairs w' g 0 n r l ∧ (∀ i, w'.frozen? ⟨g, i, none⟩ = false) ∧ Below w.heap.size w w'
theorem copied_own {w w' : World} {n : Nat} {r l : Nat → Int} {v : Value} {e : TypeId} (h : w'.ownsRow w.heap.size e 2 v n (pcs r l n)) (hv : v ≠ .slice none 0 0) (hB : Below w.heap.size w w') : CopiedP w n r l v w' := by
  have hc := fun g => World.ownsRow.cells h (g := g)
  rcases h.2 with ⟨h0, _⟩ | ⟨g, cap, cur, rfl, hb, hg, h1, h2, h3, h4⟩
  · exact absurd h0 hv
  · refine ⟨g, cap, rfl, hb, (Array.getElem?_eq_some_iff.1 hg).1, h1, h2, fun i hi => ?_, frozen_of_row hg, hB⟩
    obtain ⟨p1, p2⟩ := pcs_get r l n i hi
    have a1 := hc g rfl _ _ p1
    have a2 := hc g rfl _ _ p2
    have ad : ∀ j, (⟨g, 0, none⟩ : Addr).add j = ⟨g, j, none⟩ := fun j => by unfold Addr.add; split <;> simp_all
    rw [ad] at a1 a2
    rw [show 0 + i * 2 = i * 2 by omega]
    exact ⟨a1, a2⟩
theorem copied_nil (w : World) (r l : Nat → Int) (t : TypeId) : CopiedP w 0 r l (.slice (some ⟨w.heap.size, 0, none⟩) 0 0) (w.alloc (.cells #[] t)) :=
  ⟨_, _, rfl, Nat.le_refl _, by simp, Nat.le_refl _, Nat.zero_le _, fun i hi => by omega, frozen_of_row (heap_alloc_new w _), (Below.refl _ _).alloc (Nat.le_refl _) _⟩
/-- 'append([]api.Pair{}, l...)', l not nil. -/
theorem wp_copy_pairs {ops : Array Oper} {rest : List Oper} {o : Oper} {act : Act} {Q : Exit → Act → World → Prop} (hgd : o.guard = none) (s x : Operand)
    (ho : o.op = .call { callee := .builtin .append, args := #[s, x], argTypes := #[22, 22] }) (w : World)
    (hs : act.eval s = .slice (some ⟨w.heap.size, 0, none⟩) 0 0) (y : Addr) (n c : Nat) (r l : Nat → Int) (hx : act.eval x = .slice (some y) n c) (hp : Pl w (.slice (some y) n c) n r l) (hn : n ≤ 1000)
    (h : ∀ v w', CopiedP w n r l v w' → wpList Try.prog ops Q rest (act.put o.dst v) w') :
    wpList Try.prog ops Q (o :: rest) act (w.alloc (.cells #[] 39)) := by
  obtain ⟨i0, hi, hz0, hz1, hz2⟩ := info_parts info_pair
  have hq : (pcs r l n).length = n * 2 := pcs_len r l n
  have hnews : ∀ j u, (pcs r l n)[j]? = some u → (w.alloc (.cells #[] 39)).cell? (y.add j) = some u := by
    obtain ⟨a', c', hv, _, _, h3⟩ := hp
    cases hv
    rcases h3 with ⟨rfl, _⟩ | ⟨b, o', hb, hlt, hpp⟩
    · intro j u hu; simp [pcs] at hu
    · cases hb
      exact news_pairs (hpp.below ((Below.refl w.heap.size w).alloc (Nat.le_refl _) _) hlt)
  refine wpList_append_own _ hgd s x 22 ho w.heap.size 39 i0 (.agg #[.int .i64 0, .int .i64 0]) 2 16 Try.underlying22 hi hz0 hz1 hz2 rfl (by decide) _ _ _ hs (World.ownsRow_made w #[] 0 (Nat.le_refl _) (Nat.zero_le _) rfl) y n c (pcs r l n) hx hq hnews (pcs_one r l n) (by unfold maxLen; omega) (by omega) (by simp) ?_
  intro v' w1 hown hgr hnil
  simp only [Nat.zero_add] at hown
  have hB : Below w.heap.size w w1 := ((Below.refl w.heap.size w).alloc (Nat.le_refl _) (.cells #[] 39)).grown hgr (by simp) (fun k hk => by cases hk; exact Nat.le_refl _)
  exact h _ _ (copied_own (by simpa using hown) (fun h => by have := (hnil.1 h).1; cases this) hB)
end Sc
end Go.Proofs.Ytngffhpkjekopaa
