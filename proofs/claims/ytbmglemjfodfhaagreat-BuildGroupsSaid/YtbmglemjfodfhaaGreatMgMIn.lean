/- Macroblocks that came in: as they read; whether one is too long. -/
import Derived.Test.YtbmglemjfodfhaaGreatMgMc2
import Derived.Test.YtbmglemjfodfhaaGreatMgPairIn
set_option linter.unusedVariables false
set_option linter.unusedSimpArgs false
namespace Go.Proofs.YtbmglemjfodfhaaGreat
open Go.RowKit Go.ChangeShapes Go.WideShapes
namespace Bl
open Bk Kd
def Bsl0 (w : World) (v : Value) (m : Nat) (dc : Nat → Int) (q : Nat → Option Addr) (nn cc : Nat → Nat) (r l : Nat → Nat → Int) : Prop :=
  ∃ a c, v = .slice a m c ∧ m ≤ c ∧ c ≤ maxLen ∧ (m = 0 ∨ ∃ b o, a = some ⟨b, o, none⟩ ∧ ∀ j, j < m → w.cell? ⟨b, o + j * 2, none⟩ = some (.int .i64 (dc j)) ∧ w.cell? ⟨b, o + j * 2 + 1, none⟩ = some (.slice (q j) (nn j) (cc j)) ∧ Pl w (.slice (q j) (nn j) (cc j)) (nn j) (r j) (l j))
def MB.raw (M : MB) (w : World) (v : Value) : Prop := Bsl0 w v M.m M.dc M.q M.nn M.cc M.r M.l
theorem MB.raw.fit {M : MB} {w : World} {v : Value} (h : MB.raw M w v) (hn : ∀ j, j < M.m → M.nn j ≤ 1000) : M.at w v := by
  obtain ⟨a, c, e, h1, h2, h3⟩ := h
  refine ⟨a, c, e, h1, h2, ?_⟩
  rcases h3 with h3 | ⟨b, o, e2, h4⟩
  · exact .inl h3
  · exact .inr ⟨b, o, e2, fun j hj => ⟨(h4 j hj).1, (h4 j hj).2.1, (h4 j hj).2.2, hn j hj⟩⟩
theorem MB.raw.below {M : MB} {w w' : World} {v : Value} (h : MB.raw M w v) (hb : Below w.heap.size w w') : MB.raw M w' v := by
  obtain ⟨a, c, e, h1, h2, h3⟩ := h
  refine ⟨a, c, e, h1, h2, ?_⟩
  rcases h3 with h3 | ⟨b, o, e2, h4⟩
  · exact .inl h3
  · refine .inr ⟨b, o, e2, fun j hj => ?_⟩
    obtain ⟨c1, c2, c3⟩ := h4 j hj
    exact ⟨(hb.cell (p := ⟨b, o + j * 2, none⟩) (World.block_lt_of_cell? w _ c1)).trans c1, (hb.cell (p := ⟨b, o + j * 2 + 1, none⟩) (World.block_lt_of_cell? w _ c2)).trans c2, c3.below hb⟩
section
variable {H : Type} {enc : TypeId × Value → H} {P : Program} {w : World} {base : Nat} {spare : Nat → Bool} {held : Bool}
theorem open_pl1 {t e : TypeId} {f0 f1 : Field} {fuel : Nat} {x : DataW H × List MemPlace} {v : Value}
    (ht : P.underlying t = some (.slice e)) (he : P.underlying e = some (.struct #[f0, f1])) (ce : P.cellsOf e = 2) (o0 : f0.offset = 0) (o1 : f1.offset = 1) (c0 : P.cellsOf f0.type = 1) (c1 : P.cellsOf f1.type = 1)
    (i0 : P.underlying f0.type = some (.int .i64)) (i1 : P.underlying f1.type = some (.int .i64)) (h : DataW.trod enc P w base spare held fuel t [v] = some x) : ∃ a len cap r l, v = .slice a len cap ∧ Pl w (.slice a len cap) len r l := by
  obtain ⟨a, len, cap, rfl⟩ : ∃ a len cap, v = .slice a len cap := by
    rcases Go.Deep.open_slice_pairs ht he ce o0 o1 c0 c1 h with ⟨hcs, _⟩ | ⟨y, ln, cp, m, n, _, _, _, _, _, _, hcs, _⟩
    · exact ⟨_, _, _, by simpa using hcs⟩
    · exact ⟨_, _, _, by simpa using hcs⟩
  obtain ⟨r, l, h2⟩ := open_pl ht he ce o0 o1 c0 c1 i0 i1 rfl h
  exact ⟨a, len, cap, r, l, rfl, h2.pl⟩
theorem open_bl {t e tp ep : TypeId} {f0 f1 g0 g1 : Field} {fuel : Nat} {x : DataW H × List MemPlace} {v : Value}
    (ht : P.underlying t = some (.slice e)) (he : P.underlying e = some (.struct #[f0, f1])) (ce : P.cellsOf e = 2) (o0 : f0.offset = 0) (o1 : f1.offset = 1) (c0 : P.cellsOf f0.type = 1) (c1 : P.cellsOf f1.type = 1)
    (i0 : P.underlying f0.type = some (.int .i64)) (hp : f1.type = tp)
    (hpt : P.underlying tp = some (.slice ep)) (hpe : P.underlying ep = some (.struct #[g0, g1])) (pe : P.cellsOf ep = 2) (p0 : g0.offset = 0) (p1 : g1.offset = 1) (q0 : P.cellsOf g0.type = 1) (q1 : P.cellsOf g1.type = 1)
    (j0 : P.underlying g0.type = some (.int .i64)) (j1 : P.underlying g1.type = some (.int .i64)) (h : DataW.trod enc P w base spare held fuel t [v] = some x) :
    ∃ a m cap dc q nn cc r l, v = .slice a m cap ∧ Bsl0 w v m dc q nn cc r l := by
  subst hp
  rcases Go.Deep.open_slice_pairs ht he ce o0 o1 c0 c1 h with ⟨hcs, _⟩ | ⟨y, ln, cp, m, n, V0, V1, D0, D1, P0, P1, hcs, _, hl, hm, hmm, _, hall⟩
  · have hv : v = .slice none 0 0 := by simpa using hcs
    exact ⟨none, 0, 0, fun _ => 0, fun _ => none, fun _ => 0, fun _ => 0, fun _ _ => 0, fun _ _ => 0, hv, none, 0, hv, Nat.le_refl _, Nat.zero_le _, .inl rfl⟩
  · have hv : v = .slice (some y) ln cp := by simpa using hcs
    have hlm : ln ≤ m := by rw [hmm]; split <;> omega
    have each : ∀ i, ∃ z : Int × Option Addr × Nat × Nat × (Nat → Int) × (Nat → Int), i < m → w.cell? (y.add (i * 2)) = some (.int .i64 z.1) ∧ w.cell? (y.add (i * 2 + 1)) = some (.slice z.2.1 z.2.2.1 z.2.2.2.1) ∧ Pl w (.slice z.2.1 z.2.2.1 z.2.2.2.1) z.2.2.1 z.2.2.2.2.1 z.2.2.2.2.2 := fun i => by
      by_cases hi : i < m
      · obtain ⟨e0, e1, t0, t1⟩ := hall i hi
        obtain ⟨d, hd, _⟩ := DataW.trod_int i0 t0
        have hd : V0 i = .int .i64 d := by simpa using hd
        obtain ⟨a, len, cap, r, l, hs, hpl⟩ := open_pl1 hpt hpe pe p0 p1 q0 q1 j0 j1 t1
        exact ⟨(d, a, len, cap, r, l), fun _ => ⟨by rw [e0, hd], by rw [e1, hs], hpl⟩⟩
      · exact ⟨(0, none, 0, 0, fun _ => 0, fun _ => 0), fun h => absurd h hi⟩
    obtain ⟨z, hz⟩ : ∃ z : Nat → Int × Option Addr × Nat × Nat × (Nat → Int) × (Nat → Int), ∀ i, i < m → w.cell? (y.add (i * 2)) = some (.int .i64 (z i).1) ∧ w.cell? (y.add (i * 2 + 1)) = some (.slice (z i).2.1 (z i).2.2.1 (z i).2.2.2.1) ∧ Pl w (.slice (z i).2.1 (z i).2.2.1 (z i).2.2.2.1) (z i).2.2.1 (z i).2.2.2.2.1 (z i).2.2.2.2.2 :=
      ⟨fun i => Classical.choose (each i), fun i hi => Classical.choose_spec (each i) hi⟩
    refine ⟨some y, ln, cp, fun i => (z i).1, fun i => (z i).2.1, fun i => (z i).2.2.1, fun i => (z i).2.2.2.1, fun i => (z i).2.2.2.2.1, fun i => (z i).2.2.2.2.2, hv, some y, cp, hv, hl, hm, ?_⟩
    by_cases h0 : ln = 0
    · exact .inl h0
    · obtain ⟨b, o, sp⟩ := y
      have h1 := (hz 0 (by omega)).1
      have hsp : sp = none := by simpa [Addr.add] using World.cell?_spot h1
      subst hsp
      have ad : ∀ j, (⟨b, o, none⟩ : Addr).add j = ⟨b, o + j, none⟩ := fun j => by unfold Addr.add; split <;> simp_all
      refine .inr ⟨b, o, rfl, fun j hj => ?_⟩
      have := hz j (by omega)
      rw [ad, ad] at this
      exact this
theorem open_macro {t tb e tp ep : TypeId} {m0 m1 m2 m3 m4 m5 m6 f0 f1 g0 g1 : Field} {fuel : Nat} {x : DataW H × List MemPlace} {cs : Array Value}
    (hm : P.underlying t = some (.struct #[m0, m1, m2, m3, m4, m5, m6])) (cm : P.cellsOf t = 7)
    (om : m0.offset = 0 ∧ m1.offset = 1 ∧ m2.offset = 2 ∧ m3.offset = 3 ∧ m4.offset = 4 ∧ m5.offset = 5 ∧ m6.offset = 6)
    (km : P.cellsOf m0.type = 1 ∧ P.cellsOf m1.type = 1 ∧ P.cellsOf m2.type = 1 ∧ P.cellsOf m3.type = 1 ∧ P.cellsOf m4.type = 1 ∧ P.cellsOf m5.type = 1 ∧ P.cellsOf m6.type = 1)
    (im : P.underlying m0.type = some (.int .i64) ∧ P.underlying m1.type = some (.int .i64) ∧ P.underlying m2.type = some (.int .i64) ∧ P.underlying m3.type = some (.int .i64) ∧ P.underlying m4.type = some (.int .i64) ∧ P.underlying m5.type = some (.int .i64)) (hb : m6.type = tb)
    (ht : P.underlying tb = some (.slice e)) (he : P.underlying e = some (.struct #[f0, f1])) (ce : P.cellsOf e = 2) (o0 : f0.offset = 0) (o1 : f1.offset = 1) (c0 : P.cellsOf f0.type = 1) (c1 : P.cellsOf f1.type = 1)
    (i0 : P.underlying f0.type = some (.int .i64)) (hp : f1.type = tp)
    (hpt : P.underlying tp = some (.slice ep)) (hpe : P.underlying ep = some (.struct #[g0, g1])) (pe : P.cellsOf ep = 2) (p0 : g0.offset = 0) (p1 : g1.offset = 1) (q0 : P.cellsOf g0.type = 1) (q1 : P.cellsOf g1.type = 1)
    (j0 : P.underlying g0.type = some (.int .i64)) (j1 : P.underlying g1.type = some (.int .i64))
    (h : DataW.trod enc P w base spare held fuel t (Value.agg cs).cells.toList = some x) : ∃ (M : MB) (vb : Value), Value.agg cs = mv M vb ∧ MB.raw M w vb := by
  subst hb
  obtain ⟨xs, k, _, _, hl, hxl, hf⟩ := DataW.trod_struct hm h
  have hcs : (Value.agg cs).cells = cs := rfl
  rw [hcs] at hl hf
  rw [cm] at hl
  obtain ⟨n0, n1, n2, n3, n4, n5, n6⟩ := om
  obtain ⟨k0, k1, k2, k3, k4, k5, k6⟩ := km
  obtain ⟨i00, i11, i22, i33, i44, i55⟩ := im
  match hq : cs.toList, hl with
  | [v0, v1, v2, v3, v4, v5, v6], _ =>
    match xs, hxl with
    | [y0, y1, y2, y3, y4, y5, y6], _ =>
      have t0 := hf 0 m0 rfl
      have t1 := hf 1 m1 rfl
      have t2 := hf 2 m2 rfl
      have t3 := hf 3 m3 rfl
      have t4 := hf 4 m4 rfl
      have t5 := hf 5 m5 rfl
      have t6 := hf 6 m6 rfl
      rw [hq] at t0 t1 t2 t3 t4 t5 t6
      simp [n0, n1, n2, n3, n4, n5, n6, k0, k1, k2, k3, k4, k5, k6] at t0 t1 t2 t3 t4 t5 t6
      obtain ⟨a0, e0, _⟩ := DataW.trod_int i00 t0
      obtain ⟨a1, e1, _⟩ := DataW.trod_int i11 t1
      obtain ⟨a2, e2, _⟩ := DataW.trod_int i22 t2
      obtain ⟨a3, e3, _⟩ := DataW.trod_int i33 t3
      obtain ⟨a4, e4, _⟩ := DataW.trod_int i44 t4
      obtain ⟨a5, e5, _⟩ := DataW.trod_int i55 t5
      obtain ⟨a, m, cap, dc, q, nn, cc, r, l, hv, hbl⟩ := open_bl ht he ce o0 o1 c0 c1 i0 hp hpt hpe pe p0 p1 q0 q1 j0 j1 t6
      refine ⟨⟨a0, a1, a2, a3, a4, a5, m, dc, q, nn, cc, r, l⟩, v6, ?_, hbl⟩
      have : cs = #[v0, v1, v2, v3, v4, v5, v6] := Array.toList_inj.1 hq
      rw [this]
      simp at e0 e1 e2 e3 e4 e5
      rw [e0, e1, e2, e3, e4, e5]
end
end Bl
end Go.Proofs.YtbmglemjfodfhaaGreat
