/- scan.Runs. | The document's Runs. | SamePairs: two lists of the same pairs. | Slices of pairs that came in; a copy of one. | A block that came in, as it reads. -/
import Derived.Test.YtpibeocngkjolaaGreatDoorMgQuantBl
import Derived.Test.YtpibeocngkjolaaGreatDoorMgRunsP
import Derived.Test.YtpibeocngkjolaaGreatDoorMgSpread
import Derived.Deep.AppendLies
import Derived.Deep.SlicePairs
set_option linter.unusedVariables false
set_option linter.unusedSimpArgs false

namespace Go.Proofs.YtpibeocngkjolaaGreatDoor
open Go.RowKit
theorem Sc.info_pair : (Tryz.prog.info? 69).map (fun i => (i.zero, i.size, i.bytes)) = some (some (.agg #[.int .i64 0, .int .i64 0]), 2, 16) := by kernel_rfl
theorem Sc.Ints.range {w : World} {k : IntKind} {b o n : Nat} {f : Nat → Int} (h : Ints w k b o n f) : w.rangeAt b o ((List.range n).map fun i => Value.int k (f i)) := by
  intro j v hv
  have hj : j < n := by
    have := (List.getElem?_eq_some_iff.1 hv).1
    simpa using this
  rw [h j hj]
  simpa [hj] using hv
theorem Sc.wpList_load_ints {P : Program} {ops : Array Oper} {rest : List Oper} {o : Oper} {a : Act} {w : World} {Q : Exit → Act → World → Prop} (hgd : o.guard = none) (ty : TypeId) (x : Operand) (ho : o.op = .load ty x)
    {k : IntKind} {g off n m : Nat} {f : Nat → Int} {e : TypeId} (hx : a.eval x = .pointer (some ⟨g, off, none⟩)) (h : Ints w k g off n f) (hu : P.underlying ty = some (.array m e)) (hi : (P.info? ty).map (·.size) = some n)
    (hK : wpList P ops Q rest (a.put o.dst (.agg (rowOf k n f))) w) : wpList P ops Q (o :: rest) a w :=
  wpList_load_mid hgd ty x ho g off hx ((List.range n).map fun i => Value.int k (f i)) (.array m e) (Sc.Ints.range h) hu rfl (by simpa using hi) hK
theorem Sc.run_arrayAt {P : Program} (w : World) {ty e : TypeId} {m n c : Nat} {a : Option Addr} (hu : P.underlying ty = some (.array m e)) (h : m ≤ n) : (Instr.arrayAt ty (.slice a n c)).run P w = .ok (.pointer a) w := by
  have : ¬ n < m := by omega
  simp [Instr.arrayAt, run_underlying hu w, this]
namespace Sc

end Sc
end Go.Proofs.YtpibeocngkjolaaGreatDoor

namespace Go.Proofs.YtpibeocngkjolaaGreatDoor
open Go.RowKit
namespace Sc

end Sc
end Go.Proofs.YtpibeocngkjolaaGreatDoor

namespace Go.Proofs.YtpibeocngkjolaaGreatDoor
open Go.RowKit
namespace Sc

set_option maxRecDepth 100000 in
theorem SamePairs_row (b1 o1 c1 b2 o2 c2 n : Nat) (r l : Nat → Int) (w : World) (hn : n ≤ 1000000) (h1 : Pairs w b1 o1 n r l) (h2 : Pairs w b2 o2 n r l) :
    Calls Tryz.prog 42 #[.slice (some ⟨b1, o1, none⟩) n c1, .slice (some ⟨b2, o2, none⟩) n c2] w fun e w' => e = .returned (.bool true) ∧ Below w.heap.size w w' := by
  have H1 := Lib.hid h1
  have H2 := Lib.hid h2
  clear h1 h2
  go_enter Tryz.func42, Tryz.ntmps42
  go_wp2
  go_loopw [5] (fun i wr => ∃ k : Nat, k ≤ n ∧ i = .int .i64 k ∧ ∃ m, wr = w.drewN m) (fun i _ => n - (intOf i).toNat)
  case atStart => exact ⟨0, by omega, rfl, 0, rfl⟩
  case round =>
    obtain ⟨k, hk, rfl, m, rfl⟩ := hrel
    by_cases hkn : k < n
    · obtain ⟨e1, e2⟩ := H1.out k hkn
      obtain ⟨e3, e4⟩ := H2.out k hkn
      have b1 : (0 : Int) ≤ (k : Int) ∧ (k : Int) < (n : Int) := by omega
      go_wp2_with fail
      go_quiet (fail)
      go_wp2
      go_roundw
      case rel => exact ⟨k + 1, by omega, by go_num, _, rfl⟩
      case measure => simp [intOf]; omega
    · go_wp2
      go_ret
      exact ⟨rfl, below_drewN (Below.refl _ _) _⟩
theorem SamePairs_nil (a1 a2 : Option Addr) (c1 c2 : Nat) (w : World) :
    Calls Tryz.prog 42 #[.slice a1 0 c1, .slice a2 0 c2] w fun e w' => e = .returned (.bool true) ∧ Below w.heap.size w w' := by
  go_enter Tryz.func42, Tryz.ntmps42
  go_wp2
  refine wp_loop_rounds 1 ?_
  rw [rounds_succ]
  go_wp2
  go_ret
  exact ⟨rfl, Below.refl _ _⟩
theorem SamePairs_true (v1 v2 : Value) (n : Nat) (r l r' l' : Nat → Int) (w : World) (hn : n ≤ 1000000) (h1 : Pl w v1 n r l) (h2 : Pl w v2 n r' l') (hfg : ∀ i, i < n → r' i = r i ∧ l' i = l i) :
    Calls Tryz.prog 42 #[v1, v2] w fun e w' => e = .returned (.bool true) ∧ Below w.heap.size w w' := by
  have h2 := h2.congr hfg
  obtain ⟨a1, c1, rfl, _, _, k1⟩ := h1
  obtain ⟨a2, c2, rfl, _, _, k2⟩ := h2
  rcases k1 with ⟨h0, _⟩ | ⟨b1, o1, rfl, _, i1⟩
  · subst h0; exact SamePairs_nil _ _ _ _ _
  · rcases k2 with ⟨h0, _⟩ | ⟨b2, o2, rfl, _, i2⟩
    · subst h0; exact SamePairs_nil _ _ _ _ _
    · exact SamePairs_row _ _ _ _ _ _ _ _ _ _ hn i1 i2
end Sc
end Go.Proofs.YtpibeocngkjolaaGreatDoor

namespace Go.Proofs.YtpibeocngkjolaaGreatDoor
open Go.RowKit Go.ChangeShapes Go.WideShapes

/-- what is known of a slice of pairs that came in. -/
def IsPl (w : World) (a : Option Addr) (len cap : Nat) (r l : Nat → Int) : Prop :=
  (a = none ∧ len = 0 ∧ cap = 0) ∨ ∃ x, a = some x ∧ len ≤ cap ∧ cap ≤ maxLen ∧ ∀ i, i < len → w.cell? (x.add (i * 2)) = some (.int .i64 (r i)) ∧ w.cell? (x.add (i * 2 + 1)) = some (.int .i64 (l i))
theorem IsPl.pl {w : World} {a : Option Addr} {len cap : Nat} {r l : Nat → Int} (h : IsPl w a len cap r l) : Pl w (.slice a len cap) len r l := by
  rcases h with ⟨rfl, rfl, rfl⟩ | ⟨⟨b, o, sp⟩, rfl, hl, hm, hc⟩
  · exact ⟨none, 0, rfl, Nat.le_refl _, Nat.zero_le _, .inl ⟨rfl, fun _ => rfl⟩⟩
  · refine ⟨_, cap, rfl, hl, hm, ?_⟩
    by_cases h0 : len = 0
    · exact .inl ⟨h0, fun h => by cases h⟩
    · have h1 := (hc 0 (by omega)).1
      have hsp : sp = none := by simpa [Addr.add] using World.cell?_spot h1
      subst hsp
      have ad : ∀ j, (⟨b, o, none⟩ : Addr).add j = ⟨b, o + j, none⟩ := fun j => by unfold Addr.add; split <;> simp_all
      refine .inr ⟨b, o, rfl, World.block_lt_of_cell? w _ h1, fun i hi => ?_⟩
      have := hc i (by omega)
      rw [ad, ad] at this
      exact this
theorem open_pl {H : Type} {enc : TypeId × Value → H} {P : Program} {w : World} {base : Nat} {spare : Nat → Bool} {held : Bool} {t e : TypeId} {f0 f1 : Field} {fuel : Nat} {x : DataW H × List MemPlace} {a : Option Addr} {len cap : Nat}
    (ht : P.underlying t = some (.slice e)) (he : P.underlying e = some (.struct #[f0, f1])) (ce : P.cellsOf e = 2) (o0 : f0.offset = 0) (o1 : f1.offset = 1) (c0 : P.cellsOf f0.type = 1) (c1 : P.cellsOf f1.type = 1)
    (i0 : P.underlying f0.type = some (.int .i64)) (i1 : P.underlying f1.type = some (.int .i64))
    {cs : List Value} (hcs : cs = [.slice a len cap]) (h : DataW.trod enc P w base spare held fuel t cs = some x) : ∃ r l, IsPl w a len cap r l := by
  subst hcs
  rcases Go.Deep.open_slice_pairs ht he ce o0 o1 c0 c1 h with ⟨hcs, _⟩ | ⟨y, ln, cp, m, n, V0, V1, D0, D1, P0, P1, hcs, _, hl, hm, hmm, _, hall⟩
  · simp at hcs
    obtain ⟨rfl, rfl, rfl⟩ := hcs
    exact ⟨fun _ => 0, fun _ => 0, .inl ⟨rfl, rfl, rfl⟩⟩
  · simp at hcs
    obtain ⟨rfl, rfl, rfl⟩ := hcs
    have hm' : len ≤ m := by rw [hmm]; split <;> omega
    have each : ∀ i, i < m → ∃ q : Int × Int, w.cell? (y.add (i * 2)) = some (.int .i64 q.1) ∧ w.cell? (y.add (i * 2 + 1)) = some (.int .i64 q.2) := by
      intro i hi
      obtain ⟨e0, e1, g0, g1⟩ := hall i hi
      obtain ⟨n0, h0, _⟩ := DataW.trod_int i0 g0
      obtain ⟨n1, h1, _⟩ := DataW.trod_int i1 g1
      simp at h0 h1
      exact ⟨(n0, n1), by rw [e0, h0], by rw [e1, h1]⟩
    obtain ⟨q, hq⟩ := Go.Deep.choose_lt each
    exact ⟨fun i => (q i).1, fun i => (q i).2, .inr ⟨y, rfl, hl, hm, fun i hi => hq i (by omega)⟩⟩
namespace Sc
theorem news_pairs {w : World} {b o n : Nat} {r l : Nat → Int} (h : Pairs w b o n r l) : ∀ j u, (pcs r l n)[j]? = some u → w.cell? ((⟨b, o, none⟩ : Addr).add j) = some u := by
  intro j u hu
  have hj : j < n * 2 := by
    have := (List.getElem?_eq_some_iff.1 hu).1
    rwa [pcs_len] at this
  rw [Addr.add_lit]
  obtain ⟨p1, p2⟩ := pcs_get r l n (j / 2) (by omega)
  by_cases h2 : j % 2 = 0
  · have ej : j = j / 2 * 2 := by omega
    rw [ej] at hu
    rw [p1] at hu
    rw [ej, (h (j / 2) (by omega)).1, ← hu]
  · have ej : j = j / 2 * 2 + 1 := by omega
    rw [ej] at hu
    rw [p2] at hu
    rw [ej, ← Nat.add_assoc, (h (j / 2) (by omega)).2, ← hu]
theorem pcs_one (r l : Nat → Int) : ∀ n, ∀ u ∈ pcs r l n, u.oneCell' = true
  | 0, u, h => by simp [pcs] at h
  | n + 1, u, h => by
    simp only [pcs, List.mem_append, List.mem_cons, List.not_mem_nil, or_false] at h
    rcases h with h | rfl | rfl
    · exact pcs_one r l n u h
    · rfl
    · rfl
/-- a copy of a list of pairs: a row of the call's own. -/
def CopiedP (w : World) (n : Nat) (r l : Nat → Int) (v : Value) (w' : World) : Prop :=
  ∃ g c, v = .slice (some ⟨g, 0, none⟩) n c ∧ w.heap.size ≤ g ∧ g < w'.heap.size ∧ n ≤ c ∧ c ≤ maxLen ∧ Pairs w' g 0 n r l ∧ (∀ i, w'.frozen? ⟨g, i, none⟩ = false) ∧ Below w.heap.size w w'
theorem copied_own {w w' : World} {n : Nat} {r l : Nat → Int} {v : Value} {e : TypeId} (h : w'.ownsRow w.heap.size e 2 v n (pcs r l n)) (hv : v ≠ .slice none 0 0) (hB : Below w.heap.size w w') : CopiedP w n r l v w' := by
  have hc := fun g => World.ownsRow.cells h (g := g)
  rcases h.2 with ⟨h0, _⟩ | ⟨g, cap, cur, rfl, hb, hg, h1, h2, h3, h4⟩
  · exact absurd h0 hv
  · refine ⟨g, cap, rfl, hb, (Array.getElem?_eq_some_iff.1 hg).1, h1, h2, fun i hi => ?_, frozen_of_row hg, hB⟩
    obtain ⟨p1, p2⟩ := pcs_get r l n i hi
    have a1 := hc g rfl _ _ p1
    have a2 := hc g rfl _ _ p2
    have ad : ∀ j, (⟨g, 0, none⟩ : Addr).add j = ⟨g, j, none⟩ := fun j => by unfold Addr.add; split <;> simp_all
    rw [ad] at a1 a2
    rw [show 0 + i * 2 = i * 2 by omega]
    exact ⟨a1, a2⟩
theorem copied_nil (w : World) (r l : Nat → Int) (t : TypeId) : CopiedP w 0 r l (.slice (some ⟨w.heap.size, 0, none⟩) 0 0) (w.alloc (.cells #[] t)) :=
  ⟨_, _, rfl, Nat.le_refl _, by simp, Nat.le_refl _, Nat.zero_le _, fun i hi => by omega, frozen_of_row (heap_alloc_new w _), (Below.refl _ _).alloc (Nat.le_refl _) _⟩
/-- 'append([]api.Pair{}, l...)', l not nil. -/
theorem wp_copy_pairs {ops : Array Oper} {rest : List Oper} {o : Oper} {act : Act} {Q : Exit → Act → World → Prop} (hgd : o.guard = none) (s x : Operand)
    (ho : o.op = .call { callee := .builtin .append, args := #[s, x], argTypes := #[25, 25] }) (w : World)
    (hs : act.eval s = .slice (some ⟨w.heap.size, 0, none⟩) 0 0) (y : Addr) (n c : Nat) (r l : Nat → Int) (hx : act.eval x = .slice (some y) n c) (hp : Pl w (.slice (some y) n c) n r l) (hn : n ≤ 1000)
    (h : ∀ v w', CopiedP w n r l v w' → wpList Tryz.prog ops Q rest (act.put o.dst v) w') :
    wpList Tryz.prog ops Q (o :: rest) act (w.alloc (.cells #[] 69)) := by
  obtain ⟨i0, hi, hz0, hz1, hz2⟩ := info_parts info_pair
  have hq : (pcs r l n).length = n * 2 := pcs_len r l n
  have hnews : ∀ j u, (pcs r l n)[j]? = some u → (w.alloc (.cells #[] 69)).cell? (y.add j) = some u := by
    obtain ⟨a', c', hv, _, _, h3⟩ := hp
    cases hv
    rcases h3 with ⟨rfl, _⟩ | ⟨b, o', hb, hlt, hpp⟩
    · intro j u hu; simp [pcs] at hu
    · cases hb
      exact news_pairs (hpp.below ((Below.refl w.heap.size w).alloc (Nat.le_refl _) _) hlt)
  refine wpList_append_own _ hgd s x 25 ho w.heap.size 69 i0 (.agg #[.int .i64 0, .int .i64 0]) 2 16 Tryz.underlying25 hi hz0 hz1 hz2 rfl (by decide) _ _ _ hs (World.ownsRow_made w #[] 0 (Nat.le_refl _) (Nat.zero_le _) rfl) y n c (pcs r l n) hx hq hnews (pcs_one r l n) (by unfold maxLen; omega) (by omega) (by simp) ?_
  intro v' w1 hown hgr hnil
  simp only [Nat.zero_add] at hown
  have hB : Below w.heap.size w w1 := ((Below.refl w.heap.size w).alloc (Nat.le_refl _) (.cells #[] 69)).grown hgr (by simp) (fun k hk => by cases hk; exact Nat.le_refl _)
  exact h _ _ (copied_own (by simpa using hown) (fun h => by have := (hnil.1 h).1; cases this) hB)
end Sc
end Go.Proofs.YtpibeocngkjolaaGreatDoor

namespace Go.Proofs.YtpibeocngkjolaaGreatDoor
open Go.RowKit Go.ChangeShapes Go.WideShapes
namespace Dk
open Sc
section
variable {H : Type} {enc : TypeId × Value → H} {P : Program} {w : World} {base : Nat} {spare : Nat → Bool} {held : Bool}
theorem open_pl2 {t e : TypeId} {f0 f1 : Field} {fuel : Nat} {x : DataW H × List MemPlace} {v : Value}
    (ht : P.underlying t = some (.slice e)) (he : P.underlying e = some (.struct #[f0, f1])) (ce : P.cellsOf e = 2) (o0 : f0.offset = 0) (o1 : f1.offset = 1) (c0 : P.cellsOf f0.type = 1) (c1 : P.cellsOf f1.type = 1)
    (i0 : P.underlying f0.type = some (.int .i64)) (i1 : P.underlying f1.type = some (.int .i64)) (h : DataW.trod enc P w base spare held fuel t [v] = some x) : ∃ a len cap r l, v = .slice a len cap ∧ Pl w (.slice a len cap) len r l := by
  obtain ⟨a, len, cap, rfl⟩ : ∃ a len cap, v = .slice a len cap := by
    rcases Go.Deep.open_slice_pairs ht he ce o0 o1 c0 c1 h with ⟨hcs, _⟩ | ⟨y, ln, cp, m, n, _, _, _, _, _, _, hcs, _⟩
    · exact ⟨_, _, _, by simpa using hcs⟩
    · exact ⟨_, _, _, by simpa using hcs⟩
  obtain ⟨r, l, h2⟩ := open_pl ht he ce o0 o1 c0 c1 i0 i1 rfl h
  exact ⟨a, len, cap, r, l, rfl, h2.pl⟩
theorem open_block {t tp ep : TypeId} {f0 f1 g0 g1 : Field} {fuel : Nat} {x : DataW H × List MemPlace} {cs : Array Value}
    (he : P.underlying t = some (.struct #[f0, f1])) (ce : P.cellsOf t = 2) (o0 : f0.offset = 0) (o1 : f1.offset = 1) (c0 : P.cellsOf f0.type = 1) (c1 : P.cellsOf f1.type = 1)
    (i0 : P.underlying f0.type = some (.int .i64)) (hp : f1.type = tp)
    (hpt : P.underlying tp = some (.slice ep)) (hpe : P.underlying ep = some (.struct #[g0, g1])) (pe : P.cellsOf ep = 2) (p0 : g0.offset = 0) (p1 : g1.offset = 1) (q0 : P.cellsOf g0.type = 1) (q1 : P.cellsOf g1.type = 1)
    (j0 : P.underlying g0.type = some (.int .i64)) (j1 : P.underlying g1.type = some (.int .i64))
    (h : DataW.trod enc P w base spare held fuel t (Value.agg cs).cells.toList = some x) : ∃ dc q n c r l, cs = #[.int .i64 dc, .slice q n c] ∧ Pl w (.slice q n c) n r l := by
  subst hp
  obtain ⟨xs, k, _, _, hl, hxl, hf⟩ := DataW.trod_struct he h
  have hcs : (Value.agg cs).cells = cs := rfl
  rw [hcs] at hl hf
  rw [ce] at hl
  match hq : cs.toList, hl with
  | [v0, v1], _ =>
    match xs, hxl with
    | [y0, y1], _ =>
      have t0 := hf 0 f0 rfl
      have t1 := hf 1 f1 rfl
      rw [hq] at t0 t1
      simp [o0, o1, c0, c1] at t0 t1
      obtain ⟨a0, e0, _⟩ := DataW.trod_int i0 t0
      obtain ⟨a, m, cap, r, l, hv, hbl⟩ := open_pl2 hpt hpe pe p0 p1 q0 q1 j0 j1 t1
      refine ⟨a0, a, m, cap, r, l, ?_, hbl⟩
      have : cs = #[v0, v1] := Array.toList_inj.1 hq
      rw [this]
      simp at e0
      rw [e0, hv]
end
end Dk
end Go.Proofs.YtpibeocngkjolaaGreatDoor
