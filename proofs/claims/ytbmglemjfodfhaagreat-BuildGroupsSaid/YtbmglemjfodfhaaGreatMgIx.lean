/- frame.Place. | The samples of all blocks of all macroblocks of all groups: each sample of a picture once. -/
import Derived.Test.YtbmglemjfodfhaaGreatMgPar
import Derived.BigRegionIn
set_option linter.unusedVariables false
set_option linter.unusedSimpArgs false
namespace Go.Proofs.YtbmglemjfodfhaaGreat
open Go.RowKit Go.Shelf
attribute [local go_sem] Oper.semAt_some
namespace Pt
open Fr
theorem cE_cases (n g a : Int) (h : cE n g a = 0) : (n = 0 ∨ n = 1) ∧ inG n g = true ∧ 1 ≤ a ∧ a ≤ 33 := by
  unfold cE at h
  by_cases h1 : n = 0 ∨ n = 1
  · rw [if_pos h1] at h
    by_cases h2 : inG n g = true
    · rw [if_pos h2] at h
      by_cases h3 : a < 1 ∨ 33 < a
      · rw [if_pos h3] at h; omega
      · exact ⟨h1, h2, by omega, by omega⟩
    · rw [if_neg h2] at h; omega
  · rw [if_neg h1] at h; omega
theorem cX_bd (n g a : Int) (h : cE n g a = 0) : 0 ≤ cX n g a ∧ cX n g a + 16 ≤ wV n := by
  obtain ⟨h1, h2, h3, h4⟩ := cE_cases n g a h
  unfold cX
  rw [if_pos h]
  rcases h1 with rfl | rfl
  · rw [if_neg (by decide), show wV 0 = 176 from rfl]; omega
  · have := inG_bd1 h2
    rw [if_pos rfl, show wV 1 = 352 from rfl]; omega
theorem cY_bd (n g a : Int) (h : cE n g a = 0) : 0 ≤ cY n g a ∧ cY n g a + 16 ≤ hV n := by
  obtain ⟨h1, h2, h3, h4⟩ := cE_cases n g a h
  unfold cY
  rw [if_pos h]
  rcases h1 with rfl | rfl
  · rw [show hV 0 = 144 from rfl, inG_0] at *
    simp at h2
    omega
  · have := inG_bd1 h2
    rw [show hV 1 = 288 from rfl]; omega
theorem c_bd (n g a : Int) (h : cE n g a = 0) : (0 ≤ cX n g a ∧ cX n g a ≤ 400) ∧ (0 ≤ cY n g a ∧ cY n g a ≤ 400) := by
  have h1 := cX_bd n g a h
  have h2 := cY_bd n g a h
  have h3 := (cE_cases n g a h).1
  have e1 : wV 0 = 176 := rfl
  have e2 : wV 1 = 352 := rfl
  have e3 : hV 0 = 144 := rfl
  have e4 : hV 1 = 288 := rfl
  rcases h3 with rfl | rfl <;> omega
def bA (n X Y k : Int) : Int := if k ≤ 4 then (Y + (k - 1) / 2 * 8) * wV n + X + (k - 1) % 2 * 8 else wV n * hV n + (k - 5) * (wV n * hV n / 4) + Y / 2 * (wV n / 2) + X / 2
def bS (n k : Int) : Int := if k ≤ 4 then wV n else wV n / 2
theorem parts_mem (n X Y : Int) (hn : n = 0 ∨ n = 1) (x : Part) (h : x ∈ partsL n X Y 2) : (1 ≤ x.1 ∧ x.1 ≤ 6) ∧ x.2.1 = bA n X Y x.1 ∧ x.2.2 = bS n x.1 := by
  simp only [partsL, lumaL, List.range_succ, List.range_zero, List.map_append, List.map_cons, List.map_nil, List.nil_append, List.cons_append, List.mem_cons, List.not_mem_nil, or_false] at h
  have e1 : wV 0 = 176 := rfl
  have e2 : wV 1 = 352 := rfl
  have e3 : hV 0 = 144 := rfl
  have e4 : hV 1 = 288 := rfl
  rcases hn with rfl | rfl <;> rcases h with rfl | rfl | rfl | rfl | rfl | rfl <;> simp only [lumaP, chrP, bA, bS, e1, e2, e3, e4] <;> refine ⟨by omega, ?_, ?_⟩ <;> first | (rw [if_pos (by decide)]; omega) | (rw [if_neg (by decide)]; omega) | (rw [if_pos (by decide)]) | (rw [if_neg (by decide)])
theorem parts_hit (n X Y k : Int) (hk : 1 ≤ k ∧ k ≤ 6) : ∃ x ∈ partsL n X Y 2, x.1 = k := by
  simp only [partsL, lumaL, List.range_succ, List.range_zero, List.map_append, List.map_cons, List.map_nil, List.nil_append, List.cons_append]
  rcases (by omega : k = 1 ∨ k = 2 ∨ k = 3 ∨ k = 4 ∨ k = 5 ∨ k = 6) with rfl | rfl | rfl | rfl | rfl | rfl
  · exact ⟨lumaP n X Y 0, by simp, rfl⟩
  · exact ⟨lumaP n X Y 1, by simp, rfl⟩
  · exact ⟨lumaP n X Y 2, by simp, rfl⟩
  · exact ⟨lumaP n X Y 3, by simp, rfl⟩
  · exact ⟨chrP n X Y 0, by simp, rfl⟩
  · exact ⟨chrP n X Y 1, by simp, rfl⟩
theorem kpA_alloc {B l : Nat} (V : World) (o : Obj) : KpA B l V (V.alloc o) := ⟨by simp, fun i _ _ o2 h2 => (Below.heap_alloc V o i (Array.getElem?_eq_some_iff.1 h2).1).trans h2⟩
theorem kpA_refl {B l : Nat} (V : World) : KpA B l V V := ⟨Nat.le_refl _, fun _ _ _ _ h => h⟩
theorem kpA_set {B l : Nat} (V : World) (b : Nat) (hb : b < B) (v : Value) : KpA B l V (V.setCell ⟨b, 0, none⟩ v) := ⟨by simp, fun i hi _ o ho => ((grownBy_setCell' V b v).block i (Array.getElem?_eq_some_iff.1 ho).1 (fun e => by have := Option.some.inj e; omega)).trans ho⟩
theorem results_box3 {fn : Func} {p q r : Tmp} (hr : fn.results = #[.cell p 3, .cell q 3, .cell r 34]) (tmps : Array Value) {w : World} {b1 b2 b3 : Nat} {v1 v2 v3 : Value} {T1 T2 T3 : TypeId}
    (hp : tmps.getD p undef = .pointer (some ⟨b1, 0, none⟩)) (hq : tmps.getD q undef = .pointer (some ⟨b2, 0, none⟩)) (hs : tmps.getD r undef = .pointer (some ⟨b3, 0, none⟩)) (h1 : Boxed w b1 T1 v1) (h2 : Boxed w b2 T2 v2) (h3 : Boxed w b3 T3 v3) :
    (results fn tmps).run Tryz.prog w = .ok (.tuple #[v1, v2, v3]) w := by
  have c1 := h1.cell
  have c2 := h2.cell
  have c3 := h3.cell
  have hp' : tmps[p]?.getD undef = .pointer (some ⟨b1, 0, none⟩) := by simpa using hp
  have hq' : tmps[q]?.getD undef = .pointer (some ⟨b2, 0, none⟩) := by simpa using hq
  have hs' : tmps[r]?.getD undef = .pointer (some ⟨b3, 0, none⟩) := by simpa using hs
  simp [results, hr, hp', hq', hs', asAddr, loadVar, go_sem, c1, c2, c3, Tryz.underlying3, Tryz.underlying34]
set_option maxRecDepth 100000 in
set_option maxHeartbeats 4000000 in
theorem Place_ok (n g a k : Int) (hn : n = 0 ∨ n = 1) (w : World) (hc : cE n g a = 0) (hX : 0 ≤ cX n g a ∧ cX n g a ≤ 400) (hY : 0 ≤ cY n g a ∧ cY n g a ≤ 400) :
    Calls Tryz.prog 56 #[.int .i64 n, .int .i64 g, .int .i64 a, .int .i64 k] w fun e w' =>
      (∃ x, x ∈ partsL n (cX n g a) (cY n g a) 2 ∧ x.1 = k ∧ e = .returned (.tuple #[.int .i64 x.2.1, .int .i64 x.2.2, .int .i64 0]) ∧ Below w.heap.size w w') ∨
      ((∀ x ∈ partsL n (cX n g a) (cY n g a) 2, x.1 ≠ k) ∧ e = .returned (.tuple #[.int .i64 0, .int .i64 0, .int .i64 3]) ∧ Below w.heap.size w w') := by
  obtain ⟨X, hXe⟩ : ∃ X, cX n g a = X := ⟨_, rfl⟩
  obtain ⟨Y, hYe⟩ : ∃ Y, cY n g a = Y := ⟨_, rfl⟩
  have HC : ∀ v, Calls Tryz.prog 86 #[.int .i64 n, .int .i64 g, .int .i64 a] v fun e w' => e = .returned (.tuple #[.int .i64 X, .int .i64 Y, .int .i64 0]) ∧ Below v.heap.size v w' := fun v => by
    have := Corner_any n g a v
    rwa [hXe, hYe, hc] at this
  rw [hXe] at hX
  rw [hYe] at hY
  rw [hXe, hYe]
  clear hXe hYe hc
  have b0 := (((Boxed.new w 3 (.int .i64 k)).alloc (.cells #[.int .i64 0] 3)).alloc (.cells #[.int .i64 0] 3)).alloc (.cells #[.int .i64 0] 34)
  have b1 := ((Boxed.new (w.alloc (.cells #[.int .i64 k] 3)) 3 (.int .i64 0)).alloc (.cells #[.int .i64 0] 3)).alloc (.cells #[.int .i64 0] 34)
  have b2 := (Boxed.new ((w.alloc (.cells #[.int .i64 k] 3)).alloc (.cells #[.int .i64 0] 3)) 3 (.int .i64 0)).alloc (.cells #[.int .i64 0] 34)
  have b3 := Boxed.new (((w.alloc (.cells #[.int .i64 k] 3)).alloc (.cells #[.int .i64 0] 3)).alloc (.cells #[.int .i64 0] 3)) 34 (.int .i64 0)
  have bb : Below w.heap.size w ((((w.alloc (.cells #[.int .i64 k] 3)).alloc (.cells #[.int .i64 0] 3)).alloc (.cells #[.int .i64 0] 3)).alloc (.cells #[.int .i64 0] 34)) := ((((Below.refl w.heap.size w).alloc (Nat.le_refl _) _).alloc (by simp) _).alloc (by simp; omega) _).alloc (by simp; omega) _
  simp only [World.size_alloc] at b1 b2 b3
  refine (callsIn_wide (n := 12)).1 ?_
  refine callsIn_of_wp_marks Tryz.func56 rfl trivial ?_ rfl
  simp only [Tryz.ntmps56, List.size_toArray, List.length_cons, List.length_nil, Nat.reduceAdd, Nat.reduceSub, Array.replicate_succ, Array.replicate_zero, List.push_toArray, List.append_toArray, List.nil_append, List.cons_append]
  gi_wp2_with (refine ⟨trivial, ?_⟩; gi_at_call 86; refine (callsIn_wide.2 (HC _)).mono ?_)
  obtain ⟨W0, hW0⟩ : ∃ W0, ((((w.alloc (.cells #[.int .i64 k] 3)).alloc (.cells #[.int .i64 0] 3)).alloc (.cells #[.int .i64 0] 3)).alloc (.cells #[.int .i64 0] 34)) = W0 := ⟨_, rfl⟩
  rw [hW0] at b0 b1 b2 b3 bb ⊢
  clear hW0
  rintro e W1 ⟨rfl, g1⟩
  have b0 := b0.kept (grown_of_below g1 none) (by simp)
  have b1 := b1.kept (grown_of_below g1 none) (by simp)
  have b2 := b2.kept (grown_of_below g1 none) (by simp)
  have b3 := b3.kept (grown_of_below g1 none) (by simp)
  have bb := bb.trans (g1.mono bb.size)
  clear g1 HC
  gi_wp2_with (refine ⟨trivial, ?_⟩; gi_at_call 100; refine (parts_in n X Y _ _).mono ?_; rintro e w' ⟨rfl, rfl⟩)
  have d1 := ((Boxed.new W1 140 (.int .i64 n)).alloc (.cells #[.int .i64 X] 3)).alloc (.cells #[.int .i64 Y] 3)
  have d2 := (Boxed.new (W1.alloc (.cells #[.int .i64 n] 140)) 3 (.int .i64 X)).alloc (.cells #[.int .i64 Y] 3)
  have d3 := Boxed.new ((W1.alloc (.cells #[.int .i64 n] 140)).alloc (.cells #[.int .i64 X] 3)) 3 (.int .i64 Y)
  simp only [World.size_alloc] at d2 d3
  have gp : Below W1.heap.size W1 (((W1.alloc (.cells #[.int .i64 n] 140)).alloc (.cells #[.int .i64 X] 3)).alloc (.cells #[.int .i64 Y] 3)) := (((Below.refl W1.heap.size W1).alloc (Nat.le_refl _) _).alloc (by simp) _).alloc (by simp; omega) _
  have sp : (((W1.alloc (.cells #[.int .i64 n] 140)).alloc (.cells #[.int .i64 X] 3)).alloc (.cells #[.int .i64 Y] 3)).heap.size = W1.heap.size + 3 := by simp
  obtain ⟨Wp, hWp⟩ : ∃ Wp, (((W1.alloc (.cells #[.int .i64 n] 140)).alloc (.cells #[.int .i64 X] 3)).alloc (.cells #[.int .i64 Y] 3)) = Wp := ⟨_, rfl⟩
  rw [hWp] at d1 d2 d3 gp sp ⊢
  clear hWp
  have l3 := b3.lt
  have b0 := b0.kept (grown_of_below gp none) (by simp)
  have b1 := b1.kept (grown_of_below gp none) (by simp)
  have b2 := b2.kept (grown_of_below gp none) (by simp)
  have b3 := b3.kept (grown_of_below gp none) (by simp)
  have bb := bb.trans (gp.mono bb.size)
  clear gp
  refine rangeN (gf := 141) (lb := #[.pointer (some ⟨W1.heap.size, 0, none⟩), .pointer (some ⟨W1.heap.size + 1, 0, none⟩), .pointer (some ⟨W1.heap.size + 2, 0, none⟩)]) rfl (enters_of Tryz.func141 (by kernel_rfl) rfl)
    (parts_seq n X Y hn 11 (by decide) hX hY W1.heap.size _ _ _ (Nat.le_refl _) (by omega) (by omega) Wp d1 d2 d3) kpA_t kpA_l (fun _ => rfl)
    (fun pre V => ((∀ x ∈ pre, x.1 ≠ k) ∧ Boxed V w.heap.size 3 (.int .i64 k) ∧ Boxed V (w.heap.size + 1) 3 (.int .i64 0) ∧ Boxed V (w.heap.size + 1 + 1) 3 (.int .i64 0) ∧ Boxed V (w.heap.size + 1 + 1 + 1) 34 (.int .i64 0)) ∧ Below w.heap.size w V)
    (fun c pre V => c = .ret ∧ ∃ x, x ∈ pre ∧ x.1 = k ∧ (Boxed V (w.heap.size + 1) 3 (.int .i64 x.2.1) ∧ Boxed V (w.heap.size + 1 + 1) 3 (.int .i64 x.2.2) ∧ Boxed V (w.heap.size + 1 + 1 + 1) 34 (.int .i64 0)) ∧ Below w.heap.size w V)
    (OwnFrom.and (OwnFrom.and (fun _ _ _ _ h _ _ => h) (OwnFrom.and (Own.from (boxed_own _ _ (fun _ => _)) _) (OwnFrom.and (Own.from (boxed_own _ _ (fun _ => _)) _) (OwnFrom.and (Own.from (boxed_own _ _ (fun _ => _)) _) (Own.from (boxed_own _ _ (fun _ => _)) _))))) (ownFrom_below (Nat.le_refl _) (by omega)))
    (fun c => fun s A C row ⟨h1, x, h2, h3, ⟨e1, e2, e3⟩, e4⟩ hg hr => ⟨h1, x, h2, h3, ⟨Own.from (boxed_own _ _ (fun _ => _)) _ s A C row e1 hg hr, Own.from (boxed_own _ _ (fun _ => _)) _ s A C row e2 hg hr, Own.from (boxed_own _ _ (fun _ => _)) _ s A C row e3 hg hr⟩, ownFrom_below (Nat.le_refl _) (by omega) s A C row e4 hg hr⟩)
    ⟨⟨fun _ h => (by cases h), b0, b1, b2, b3⟩, bb⟩
    (fun x a' V => ∃ q, V.heap[q]? = some (.cells #[.int .i64 x.1, .int .i64 x.2.1, .int .i64 x.2.2] 143 (0, 0)) ∧ a' = { tmps := #[.int .i64 n, .int .i64 g, .int .i64 a, .int .i64 k, undef, undef, undef, .pointer (some ⟨w.heap.size, 0, none⟩), .pointer (some ⟨w.heap.size + 1, 0, none⟩), .pointer (some ⟨w.heap.size + 1 + 1, 0, none⟩), .pointer (some ⟨w.heap.size + 1 + 1 + 1, 0, none⟩), .int .i64 X, .int .i64 Y, .int .i64 0, .pointer (some ⟨q, 0, none⟩), .tuple #[.int .i64 X, .int .i64 Y, .int .i64 0], .int .i64 n, .int .i64 g, .int .i64 a, .tuple #[.int .i64 X, .int .i64 Y, .int .i64 0], .int .i64 X, .int .i64 Y, .int .i64 0, .int .i64 0, .bool false, undef, .int .i64 n, .int .i64 X, .int .i64 Y, .func (.func 141) #[] #[.pointer (some ⟨W1.heap.size, 0, none⟩), .pointer (some ⟨W1.heap.size + 1, 0, none⟩), .pointer (some ⟨W1.heap.size + 2, 0, none⟩)], .agg #[.int .i64 x.1, .int .i64 x.2.1, .int .i64 x.2.2], undef, undef, undef, undef, undef, undef, undef, undef], defers := [] })
    (fun x a' => own_cells _ _ _)
    ?assign ?body ?done ?stop
  case assign =>
    rintro l pre x V K sV hl ⟨⟨h, h0, h1, h2, h3⟩, h4⟩ hK
    dsimp only [enc]
    gi_wp2
    exact hK _ _ ((KeepsOthers.alloc _ _).from _) (kpA_alloc V _) ⟨⟨h, h0.alloc _, h1.alloc _, h2.alloc _, h3.alloc _⟩, h4.alloc h4.size _⟩ ⟨V.heap.size, heap_alloc_new V _, rfl⟩
  case body =>
    rintro l pre ⟨i, o, st⟩ a' V hl ⟨r, hr⟩ ⟨⟨hne, h0, h1, h2, h3⟩, h4⟩ ⟨q, hq, rfl⟩ hlt
    dsimp only at *
    obtain ⟨q0, q1, q2⟩ := cells3 hq
    have c0 := h0.cell
    by_cases hik : i = k
    · have t1 : (i == k) = true := by simp [hik]
      have c1 := h1.cell
      have c2 := h2.cell
      have c3 := h3.cell
      have f1 := h1.frozen
      have f2 := h2.frozen
      have f3 := h3.frozen
      have D1 := Lib.hid h1
      have D2 := Lib.hid h2
      have D3 := Lib.hid h3
      have D4 := Lib.hid h4
      have HI := Lib.hid hik
      have qn : q ≠ w.heap.size + 1 := fun e => by
        have h1' : V.heap[w.heap.size + 1]? = some (.cells #[.int .i64 0] 3 (0, 0)) := h1
        rw [← e, hq] at h1'
        injection h1' with h1'
        injection h1' with h1'
        cases h1'
      have q1' : (V.setCell ⟨w.heap.size + 1, 0, none⟩ (.int .i64 o)).cell? ⟨q, 1, none⟩ = some (.int .i64 o) := by rw [World.cell?_setCell_other _ _ _ _ (fun e => qn (Addr.mk.inj e).1.symm)]; exact q1
      have q2' : (V.setCell ⟨w.heap.size + 1, 0, none⟩ (.int .i64 o)).cell? ⟨q, 2, none⟩ = some (.int .i64 st) := by rw [World.cell?_setCell_other _ _ _ _ (fun e => qn (Addr.mk.inj e).1.symm)]; exact q2
      clear h0 h1 h2 h3 h4 hq hr hik hne
      gi_wp2
      have P1 := Lib.hid ((D1.out.set (.int .i64 o)).other (B' := w.heap.size + 1 + 1) (by omega) (.int .i64 st) |>.other (B' := w.heap.size + 1 + 1 + 1) (by omega) (.int .i64 0))
      have P2 := Lib.hid (((D2.out.other (B' := w.heap.size + 1) (by omega) (.int .i64 o)).set (.int .i64 st)).other (B' := w.heap.size + 1 + 1 + 1) (by omega) (.int .i64 0))
      have P3 := Lib.hid (((D3.out.other (B' := w.heap.size + 1) (by omega) (.int .i64 o)).other (B' := w.heap.size + 1 + 1) (by omega) (.int .i64 st)).set (.int .i64 0))
      have P4 := Lib.hid (((D4.out.setCell (p := ⟨w.heap.size + 1, 0, none⟩) (by simp) (.int .i64 o)).setCell (p := ⟨w.heap.size + 1 + 1, 0, none⟩) (by simp; omega) (.int .i64 st)).setCell (p := ⟨w.heap.size + 1 + 1 + 1, 0, none⟩) (by simp; omega) (.int .i64 0))
      have P5 := Lib.hid (kpA_t (kpA_t (kpA_set (B := W1.heap.size) (l := l) V (w.heap.size + 1) (by omega) (.int .i64 o)) (kpA_set _ (w.heap.size + 1 + 1) (by omega) (.int .i64 st))) (kpA_set _ (w.heap.size + 1 + 1 + 1) (by omega) (.int .i64 0)))
      have P6 := Lib.hid ((((KeepsOthers.setCell V ⟨w.heap.size + 1, 0, none⟩ (.int .i64 o)).trans (KeepsOthers.setCell _ ⟨w.heap.size + 1 + 1, 0, none⟩ (.int .i64 st))).trans (KeepsOthers.setCell _ ⟨w.heap.size + 1 + 1 + 1, 0, none⟩ (.int .i64 0))).from Wp.heap.size)
      gi_region
      all_goals
        gi_wp2
        exact ⟨⟨P6.out.size, P6.out.same⟩, P5.out, rfl, (i, o, st), by simp, HI.out, ⟨P1.out, P2.out, P3.out⟩, P4.out.drew⟩
    · have t1 : (i == k) = false := by simp [hik]
      have D0 := Lib.hid h0
      have D1 := Lib.hid h1
      have D2 := Lib.hid h2
      have D3 := Lib.hid h3
      have D4 := Lib.hid h4
      have HI := Lib.hid hik
      have HN := Lib.hid hne
      clear h0 h1 h2 h3 h4 hq hr hik hne
      gi_wp2
      exact ⟨KeepsFrom.refl _ _, kpA_refl V, ⟨fun x hx => by
        rcases List.mem_append.1 hx with h | h
        · exact HN.out x h
        · rw [List.mem_singleton.1 h]; exact HI.out, D0.out, D1.out, D2.out, D3.out⟩, D4.out⟩
  case stop =>
    rintro Dd c pre V hD hSp ⟨rfl, x, hx, hk, ⟨e1, e2, e3⟩, e4⟩ hK
    gi_wp2
    refine ⟨by simp, .inl ⟨_, _, rfl, run_takeDeferred hK, ?_⟩⟩
    have hDl := (Array.getElem?_eq_some_iff.1 hK).1
    have e1 := e1.kept (grownBy_putObj' V Dd (.deferred none)) (fun e => by have := Option.some.inj e; omega)
    have e2 := e2.kept (grownBy_putObj' V Dd (.deferred none)) (fun e => by have := Option.some.inj e; omega)
    have e3 := e3.kept (grownBy_putObj' V Dd (.deferred none)) (fun e => by have := Option.some.inj e; omega)
    exact ⟨_, results_box3 rfl _ rfl rfl rfl e1 e2 e3, .inl ⟨x, hSp.subset hx, hk, rfl, e4.grown (grownBy_putObj' V Dd (.deferred none)) e4.size (fun g hg => by cases hg; omega)⟩⟩
  case done =>
    rintro Dd ys V hD rfl ⟨⟨hne, h0, h1, h2, h3⟩, h4⟩ hK
    have c1 := h1.cell
    have c2 := h2.cell
    have c3 := h3.cell
    have f1 := h1.frozen
    have f2 := h2.frozen
    have f3 := h3.frozen
    have D1 := Lib.hid h1
    have D2 := Lib.hid h2
    have D3 := Lib.hid h3
    have D4 := Lib.hid h4
    have HK := Lib.hid hK
    have HN := Lib.hid hne
    clear h0 h1 h2 h3 h4 hK hne
    gi_wp2
    have P1 := (D1.out.set (.int .i64 0)).other (B' := w.heap.size + 1 + 1) (by omega) (.int .i64 0) |>.other (B' := w.heap.size + 1 + 1 + 1) (by omega) (.int .i64 3)
    have P2 := ((D2.out.other (B' := w.heap.size + 1) (by omega) (.int .i64 0)).set (.int .i64 0)).other (B' := w.heap.size + 1 + 1 + 1) (by omega) (.int .i64 3)
    have P3 := ((D3.out.other (B' := w.heap.size + 1) (by omega) (.int .i64 0)).other (B' := w.heap.size + 1 + 1) (by omega) (.int .i64 0)).set (.int .i64 3)
    have P4 := ((D4.out.setCell (p := ⟨w.heap.size + 1, 0, none⟩) (by simp) (.int .i64 0)).setCell (p := ⟨w.heap.size + 1 + 1, 0, none⟩) (by simp; omega) (.int .i64 0)).setCell (p := ⟨w.heap.size + 1 + 1 + 1, 0, none⟩) (by simp; omega) (.int .i64 3)
    have P5 := kpA_t (kpA_t (kpA_set (B := W1.heap.size) (l := 0) V (w.heap.size + 1) (by omega) (.int .i64 0)) (kpA_set _ (w.heap.size + 1 + 1) (by omega) (.int .i64 0))) (kpA_set _ (w.heap.size + 1 + 1 + 1) (by omega) (.int .i64 3))
    have hK2 := P5.2 Dd (by omega) (by omega) _ HK.out
    refine ⟨by simp, .inl ⟨_, _, rfl, run_takeDeferred hK2, ?_⟩⟩
    have e1 := P1.kept (grownBy_putObj' _ Dd (.deferred none)) (fun e => by have := Option.some.inj e; omega)
    have e2 := P2.kept (grownBy_putObj' _ Dd (.deferred none)) (fun e => by have := Option.some.inj e; omega)
    have e3 := P3.kept (grownBy_putObj' _ Dd (.deferred none)) (fun e => by have := Option.some.inj e; omega)
    exact ⟨_, results_box3 rfl _ rfl rfl rfl e1 e2 e3, .inr ⟨HN.out, rfl, P4.grown (grownBy_putObj' _ Dd (.deferred none)) P4.size (fun g hg => by cases hg; omega)⟩⟩
theorem Place_no (n g a k : Int) (w : World) (hc : cE n g a ≠ 0) :
    Calls Tryz.prog 56 #[.int .i64 n, .int .i64 g, .int .i64 a, .int .i64 k] w fun e w' => e = .returned (.tuple #[.int .i64 0, .int .i64 0, .int .i64 (cE n g a)]) ∧ Below w.heap.size w w' := by
  obtain ⟨E, hE⟩ : ∃ E, cE n g a = E := ⟨_, rfl⟩
  obtain ⟨X, hXe⟩ : ∃ X, cX n g a = X := ⟨_, rfl⟩
  obtain ⟨Y, hYe⟩ : ∃ Y, cY n g a = Y := ⟨_, rfl⟩
  have HC : ∀ v, Calls Tryz.prog 86 #[.int .i64 n, .int .i64 g, .int .i64 a] v fun e w' => e = .returned (.tuple #[.int .i64 X, .int .i64 Y, .int .i64 E]) ∧ Below v.heap.size v w' := fun v => by
    have := Corner_any n g a v
    rwa [hXe, hYe, hE] at this
  rw [hE] at hc ⊢
  clear hXe hYe hE
  have t0 : (E != 0) = true := by simpa using hc
  clear hc
  have b0 := (((Boxed.new w 3 (.int .i64 k)).alloc (.cells #[.int .i64 0] 3)).alloc (.cells #[.int .i64 0] 3)).alloc (.cells #[.int .i64 0] 34)
  have b1 := ((Boxed.new (w.alloc (.cells #[.int .i64 k] 3)) 3 (.int .i64 0)).alloc (.cells #[.int .i64 0] 3)).alloc (.cells #[.int .i64 0] 34)
  have b2 := (Boxed.new ((w.alloc (.cells #[.int .i64 k] 3)).alloc (.cells #[.int .i64 0] 3)) 3 (.int .i64 0)).alloc (.cells #[.int .i64 0] 34)
  have b3 := Boxed.new (((w.alloc (.cells #[.int .i64 k] 3)).alloc (.cells #[.int .i64 0] 3)).alloc (.cells #[.int .i64 0] 3)) 34 (.int .i64 0)
  have bb : Below w.heap.size w ((((w.alloc (.cells #[.int .i64 k] 3)).alloc (.cells #[.int .i64 0] 3)).alloc (.cells #[.int .i64 0] 3)).alloc (.cells #[.int .i64 0] 34)) := ((((Below.refl w.heap.size w).alloc (Nat.le_refl _) _).alloc (by simp) _).alloc (by simp; omega) _).alloc (by simp; omega) _
  simp only [World.size_alloc] at b1 b2 b3
  go_enter Tryz.func56, Tryz.ntmps56
  go_wp2_with (go_at_call 86; refine (HC _).mono ?_)
  obtain ⟨W0, hW0⟩ : ∃ W0, ((((w.alloc (.cells #[.int .i64 k] 3)).alloc (.cells #[.int .i64 0] 3)).alloc (.cells #[.int .i64 0] 3)).alloc (.cells #[.int .i64 0] 34)) = W0 := ⟨_, rfl⟩
  rw [hW0] at b0 b1 b2 b3 bb ⊢
  clear hW0
  rintro e W1 ⟨rfl, g1⟩
  have D1 := Lib.hid (b1.kept (grown_of_below g1 none) (by simp))
  have D2 := Lib.hid (b2.kept (grown_of_below g1 none) (by simp))
  have D3 := Lib.hid (b3.kept (grown_of_below g1 none) (by simp))
  have D4 := Lib.hid (bb.trans (g1.mono bb.size))
  have c1 := D1.out.cell
  have c2 := D2.out.cell
  have c3 := D3.out.cell
  have f1 := D1.out.frozen
  have f2 := D2.out.frozen
  have f3 := D3.out.frozen
  clear g1 HC b0 b1 b2 b3 bb
  have P1 := Lib.hid ((D1.out.set (.int .i64 0)).other (B' := w.heap.size + 1 + 1) (by omega) (.int .i64 0) |>.other (B' := w.heap.size + 1 + 1 + 1) (by omega) (.int .i64 E))
  have P2 := Lib.hid (((D2.out.other (B' := w.heap.size + 1) (by omega) (.int .i64 0)).set (.int .i64 0)).other (B' := w.heap.size + 1 + 1 + 1) (by omega) (.int .i64 E))
  have P3 := Lib.hid (((D3.out.other (B' := w.heap.size + 1) (by omega) (.int .i64 0)).other (B' := w.heap.size + 1 + 1) (by omega) (.int .i64 0)).set (.int .i64 E))
  have P4 := Lib.hid (((D4.out.setCell (p := ⟨w.heap.size + 1, 0, none⟩) (by simp) (.int .i64 0)).setCell (p := ⟨w.heap.size + 1 + 1, 0, none⟩) (by simp; omega) (.int .i64 0)).setCell (p := ⟨w.heap.size + 1 + 1 + 1, 0, none⟩) (by simp; omega) (.int .i64 E))
  go_wp2_with fail
  exact bodyPost_ret (results_box3 rfl _ rfl rfl rfl P1.out P2.out P3.out) rfl ⟨rfl, P4.out⟩
def pE (n g a k : Int) : Int := if cE n g a ≠ 0 then cE n g a else if k < 1 ∨ 6 < k then 3 else 0
def pA (n g a k : Int) : Int := if pE n g a k = 0 then bA n (cX n g a) (cY n g a) k else 0
def pS (n g a k : Int) : Int := if pE n g a k = 0 then bS n k else 0
theorem Place_any (n g a k : Int) (w : World) :
    Calls Tryz.prog 56 #[.int .i64 n, .int .i64 g, .int .i64 a, .int .i64 k] w fun e w' => e = .returned (.tuple #[.int .i64 (pA n g a k), .int .i64 (pS n g a k), .int .i64 (pE n g a k)]) ∧ Below w.heap.size w w' := by
  by_cases hc : cE n g a = 0
  · have hn := (cE_cases n g a hc).1
    have hb := c_bd n g a hc
    refine (Place_ok n g a k hn w hc hb.1 hb.2).mono ?_
    rintro e w' (⟨x, hx, rfl, rfl, b⟩ | ⟨hno, rfl, b⟩)
    · obtain ⟨h1, h2, h3⟩ := parts_mem n _ _ hn x hx
      have e1 : pE n g a x.1 = 0 := by unfold pE; rw [if_neg (by simpa using hc), if_neg (by omega)]
      refine ⟨?_, b⟩
      unfold pA pS
      rw [e1, if_pos rfl, if_pos rfl, h2, h3]
    · have hk : k < 1 ∨ 6 < k := by
        by_cases h : k < 1 ∨ 6 < k
        · exact h
        · obtain ⟨x, hx, hxk⟩ := parts_hit n (cX n g a) (cY n g a) k (by omega)
          exact absurd hxk (hno x hx)
      have e1 : pE n g a k = 3 := by unfold pE; rw [if_neg (by simpa using hc), if_pos hk]
      refine ⟨?_, b⟩
      unfold pA pS
      rw [e1, if_neg (by decide), if_neg (by decide)]
  · refine (Place_no n g a k w hc).mono ?_
    rintro e w' ⟨rfl, b⟩
    have e1 : pE n g a k = cE n g a := by unfold pE; rw [if_pos hc]
    refine ⟨?_, b⟩
    unfold pA pS
    rw [e1, if_neg hc, if_neg hc]
end Pt
end Go.Proofs.YtbmglemjfodfhaaGreat
namespace Go.Proofs.YtbmglemjfodfhaaGreat
namespace Wh
open Fr
def num (j m k i : Nat) : Nat := ((j * 33 + m) * 6 + k) * 64 + i
theorem dg {b q r : Nat} (h : r < b) : (q * b + r) / b = q ∧ (q * b + r) % b = r := by
  constructor
  · rw [Nat.mul_comm, Nat.mul_add_div (by omega), Nat.div_eq_of_lt h, Nat.add_zero]
  · rw [Nat.mul_comm, Nat.mul_add_mod, Nat.mod_eq_of_lt h]
theorem mixY (u v s e : Nat) (h1 : v < 3) (h2 : s < 2) (h3 : e < 8) : (u * 48 + v * 16 + s * 8 + e) / 48 = u ∧ (u * 48 + v * 16 + s * 8 + e) % 48 / 16 = v ∧ (u * 48 + v * 16 + s * 8 + e) % 16 / 8 = s ∧ (u * 48 + v * 16 + s * 8 + e) % 8 = e := by
  refine ⟨?_, ?_, ?_, ?_⟩ <;> omega
theorem mixX (u v s e : Nat) (h1 : v < 11) (h2 : s < 2) (h3 : e < 8) : (u * 176 + v * 16 + s * 8 + e) / 176 = u ∧ (u * 176 + v * 16 + s * 8 + e) % 176 / 16 = v ∧ (u * 176 + v * 16 + s * 8 + e) % 16 / 8 = s ∧ (u * 176 + v * 16 + s * 8 + e) % 8 = e := by
  refine ⟨?_, ?_, ?_, ?_⟩ <;> omega
theorem mixy (u v e : Nat) (h1 : v < 3) (h3 : e < 8) : (u * 24 + v * 8 + e) / 24 = u ∧ (u * 24 + v * 8 + e) % 24 / 8 = v ∧ (u * 24 + v * 8 + e) % 8 = e := by
  refine ⟨?_, ?_, ?_⟩ <;> omega
theorem mixx (u v e : Nat) (h1 : v < 11) (h3 : e < 8) : (u * 88 + v * 8 + e) / 88 = u ∧ (u * 88 + v * 8 + e) % 88 / 8 = v ∧ (u * 88 + v * 8 + e) % 8 = e := by
  refine ⟨?_, ?_, ?_⟩ <;> omega
theorem ofY (Y : Nat) : ∃ u v s e, v < 3 ∧ s < 2 ∧ e < 8 ∧ Y = u * 48 + v * 16 + s * 8 + e := ⟨Y / 48, Y % 48 / 16, Y % 16 / 8, Y % 8, by omega, by omega, by omega, by omega⟩
theorem ofX (X : Nat) : ∃ u v s e, v < 11 ∧ s < 2 ∧ e < 8 ∧ X = u * 176 + v * 16 + s * 8 + e := ⟨X / 176, X % 176 / 16, X % 16 / 8, X % 8, by omega, by omega, by omega, by omega⟩
theorem ofy (Y : Nat) : ∃ u v e, v < 3 ∧ e < 8 ∧ Y = u * 24 + v * 8 + e := ⟨Y / 24, Y % 24 / 8, Y % 8, by omega, by omega, by omega⟩
theorem ofx (X : Nat) : ∃ u v e, v < 11 ∧ e < 8 ∧ X = u * 88 + v * 8 + e := ⟨X / 88, X % 88 / 8, X % 8, by omega, by omega, by omega⟩
theorem split (b x : Nat) (h : 0 < b) : ∃ q r, r < b ∧ x = q * b + r := ⟨x / b, x % b, Nat.mod_lt _ h, by rw [Nat.mul_comm]; exact (Nat.div_add_mod x b).symm⟩
def lu0 (j m k i : Nat) : Nat := (j / 1 * 48 + m / 11 * 16 + k / 2 * 8 + i / 8) * 176 + (j % 1 * 176 + m % 11 * 16 + k % 2 * 8 + i % 8)
def ch0 (j m k i : Nat) : Nat := 25344 + ((k - 4) * 6336 + ((j / 1 * 24 + m / 11 * 8 + i / 8) * 88 + (j % 1 * 88 + m % 11 * 8 + i % 8)))
def ix0 (j m k i : Nat) : Nat := if k < 4 then lu0 j m k i else ch0 j m k i
def pj0 (p : Nat) : Nat := if p < 25344 then p / 176 / 48 * 1 + p % 176 / 176 else (p - 25344) % 6336 / 88 / 24 * 1 + (p - 25344) % 6336 % 88 / 88
def pm0 (p : Nat) : Nat := if p < 25344 then p / 176 % 48 / 16 * 11 + p % 176 % 176 / 16 else (p - 25344) % 6336 / 88 % 24 / 8 * 11 + (p - 25344) % 6336 % 88 % 88 / 8
def pk0 (p : Nat) : Nat := if p < 25344 then p / 176 % 16 / 8 * 2 + p % 176 % 16 / 8 else (p - 25344) / 6336 + 4
def pi0 (p : Nat) : Nat := if p < 25344 then p / 176 % 8 * 8 + p % 176 % 8 else (p - 25344) % 6336 / 88 % 8 * 8 + (p - 25344) % 6336 % 88 % 8
def rk0 (p : Nat) : Nat := num (pj0 p) (pm0 p) (pk0 p) (pi0 p)
theorem lu_of0 (u u' v v' s s' e f : Nat) (hu' : u' < 1) (hv' : v' < 11) (hs' : s' < 2) (hf : f < 8) : lu0 (u * 1 + u') (v * 11 + v') (s * 2 + s') (e * 8 + f) = (u * 48 + v * 16 + s * 8 + e) * 176 + (u' * 176 + v' * 16 + s' * 8 + f) := by
  unfold lu0
  rw [(dg hu').1, (dg hu').2, (dg hv').1, (dg hv').2, (dg hs').1, (dg hs').2, (dg hf).1, (dg hf).2]
theorem ch_of0 (u u' v v' c e f : Nat) (hu' : u' < 1) (hv' : v' < 11) (hf : f < 8) : ch0 (u * 1 + u') (v * 11 + v') (c + 4) (e * 8 + f) = 25344 + (c * 6336 + ((u * 24 + v * 8 + e) * 88 + (u' * 88 + v' * 8 + f))) := by
  unfold ch0
  rw [(dg hu').1, (dg hu').2, (dg hv').1, (dg hv').2, (dg hf).1, (dg hf).2, Nat.add_sub_cancel]
theorem lu_back0 (u u' v v' s s' e f : Nat) (hu : u < 3) (hu' : u' < 1) (hv : v < 3) (hv' : v' < 11) (hs : s < 2) (hs' : s' < 2) (he : e < 8) (hf : f < 8) (p : Nat) (hp : p = (u * 48 + v * 16 + s * 8 + e) * 176 + (u' * 176 + v' * 16 + s' * 8 + f)) :
    p < 25344 ∧ pj0 p = u * 1 + u' ∧ pm0 p = v * 11 + v' ∧ pk0 p = s * 2 + s' ∧ pi0 p = e * 8 + f := by
  have bX : u' * 176 + v' * 16 + s' * 8 + f < 176 := by omega
  have bY : u * 48 + v * 16 + s * 8 + e < 144 := by omega
  have hA : p < 25344 := by omega
  have e1 := dg (q := u * 48 + v * 16 + s * 8 + e) bX
  rw [← hp] at e1
  obtain ⟨y1, y2, y3, y4⟩ := mixY u v s e hv hs he
  obtain ⟨x1, x2, x3, x4⟩ := mixX u' v' s' f hv' hs' hf
  unfold pj0 pm0 pk0 pi0
  rw [if_pos hA, if_pos hA, if_pos hA, if_pos hA, e1.1, e1.2, y1, y2, y3, y4, x1, x2, x3, x4]
  exact ⟨hA, rfl, rfl, rfl, rfl⟩
theorem ch_back0 (u u' v v' c e f : Nat) (hu : u < 3) (hu' : u' < 1) (hv : v < 3) (hv' : v' < 11) (hc : c < 2) (he : e < 8) (hf : f < 8) (p : Nat) (hp : p = 25344 + (c * 6336 + ((u * 24 + v * 8 + e) * 88 + (u' * 88 + v' * 8 + f)))) :
    ¬ p < 25344 ∧ p < 38016 ∧ pj0 p = u * 1 + u' ∧ pm0 p = v * 11 + v' ∧ pk0 p = c + 4 ∧ pi0 p = e * 8 + f := by
  have bX : u' * 88 + v' * 8 + f < 88 := by omega
  have bY : u * 24 + v * 8 + e < 72 := by omega
  have bq : (u * 24 + v * 8 + e) * 88 + (u' * 88 + v' * 8 + f) < 6336 := by omega
  have hA : ¬ p < 25344 := by omega
  have hp2 : p - 25344 = c * 6336 + ((u * 24 + v * 8 + e) * 88 + (u' * 88 + v' * 8 + f)) := by rw [hp, Nat.add_sub_cancel_left]
  have hB : p < 38016 := by omega
  have e0 := dg (q := c) bq
  rw [← hp2] at e0
  have e1 := dg (q := u * 24 + v * 8 + e) bX
  obtain ⟨y1, y2, y4⟩ := mixy u v e hv he
  obtain ⟨x1, x2, x4⟩ := mixx u' v' f hv' hf
  unfold pj0 pm0 pk0 pi0
  rw [if_neg hA, if_neg hA, if_neg hA, if_neg hA, e0.1, e0.2, e1.1, e1.2, y1, y2, y4, x1, x2, x4]
  exact ⟨hA, hB, rfl, rfl, rfl, rfl⟩
theorem parts_ok0 {p : Nat} (hp : p < 38016) : (pj0 p < 3 ∧ pm0 p < 33 ∧ pk0 p < 6 ∧ pi0 p < 64) ∧ ix0 (pj0 p) (pm0 p) (pk0 p) (pi0 p) = p := by
  by_cases h : p < 25344
  · obtain ⟨Y, X, hX, he⟩ := split 176 p (by decide)
    have hY : Y < 144 := by omega
    obtain ⟨u, v, s, e, hv, hs, hee, rfl⟩ := ofY Y
    obtain ⟨u', v', s', f, hv', hs', hf, rfl⟩ := ofX X
    have hu : u < 3 := by omega
    have hu' : u' < 1 := by omega
    obtain ⟨_, h2, h3, h4, h5⟩ := lu_back0 u u' v v' s s' e f hu hu' hv hv' hs hs' hee hf p he
    rw [h2, h3, h4, h5]
    refine ⟨⟨by omega, by omega, by omega, by omega⟩, ?_⟩
    unfold ix0
    rw [if_pos (by omega), lu_of0 u u' v v' s s' e f hu' hv' hs' hf]
    exact he.symm
  · obtain ⟨c, r, hr, he⟩ := split 6336 (p - 25344) (by decide)
    have hc : c < 2 := by omega
    obtain ⟨Y, X, hX, rfl⟩ := split 88 r (by decide)
    have hY : Y < 72 := by omega
    obtain ⟨u, v, e, hv, hee, rfl⟩ := ofy Y
    obtain ⟨u', v', f, hv', hf, rfl⟩ := ofx X
    have hu : u < 3 := by omega
    have hu' : u' < 1 := by omega
    have hpe : p = 25344 + (c * 6336 + ((u * 24 + v * 8 + e) * 88 + (u' * 88 + v' * 8 + f))) := by rw [← he, Nat.add_sub_cancel' (Nat.le_of_not_lt h)]
    obtain ⟨_, _, h2, h3, h4, h5⟩ := ch_back0 u u' v v' c e f hu hu' hv hv' hc hee hf p hpe
    rw [h2, h3, h4, h5]
    refine ⟨⟨by omega, by omega, by omega, by omega⟩, ?_⟩
    unfold ix0
    rw [if_neg (by omega), ch_of0 u u' v v' c e f hu' hv' hf]
    exact hpe.symm
def lu1 (j m k i : Nat) : Nat := (j / 2 * 48 + m / 11 * 16 + k / 2 * 8 + i / 8) * 352 + (j % 2 * 176 + m % 11 * 16 + k % 2 * 8 + i % 8)
def ch1 (j m k i : Nat) : Nat := 101376 + ((k - 4) * 25344 + ((j / 2 * 24 + m / 11 * 8 + i / 8) * 176 + (j % 2 * 88 + m % 11 * 8 + i % 8)))
def ix1 (j m k i : Nat) : Nat := if k < 4 then lu1 j m k i else ch1 j m k i
def pj1 (p : Nat) : Nat := if p < 101376 then p / 352 / 48 * 2 + p % 352 / 176 else (p - 101376) % 25344 / 176 / 24 * 2 + (p - 101376) % 25344 % 176 / 88
def pm1 (p : Nat) : Nat := if p < 101376 then p / 352 % 48 / 16 * 11 + p % 352 % 176 / 16 else (p - 101376) % 25344 / 176 % 24 / 8 * 11 + (p - 101376) % 25344 % 176 % 88 / 8
def pk1 (p : Nat) : Nat := if p < 101376 then p / 352 % 16 / 8 * 2 + p % 352 % 16 / 8 else (p - 101376) / 25344 + 4
def pi1 (p : Nat) : Nat := if p < 101376 then p / 352 % 8 * 8 + p % 352 % 8 else (p - 101376) % 25344 / 176 % 8 * 8 + (p - 101376) % 25344 % 176 % 8
def rk1 (p : Nat) : Nat := num (pj1 p) (pm1 p) (pk1 p) (pi1 p)
theorem lu_of1 (u u' v v' s s' e f : Nat) (hu' : u' < 2) (hv' : v' < 11) (hs' : s' < 2) (hf : f < 8) : lu1 (u * 2 + u') (v * 11 + v') (s * 2 + s') (e * 8 + f) = (u * 48 + v * 16 + s * 8 + e) * 352 + (u' * 176 + v' * 16 + s' * 8 + f) := by
  unfold lu1
  rw [(dg hu').1, (dg hu').2, (dg hv').1, (dg hv').2, (dg hs').1, (dg hs').2, (dg hf).1, (dg hf).2]
theorem ch_of1 (u u' v v' c e f : Nat) (hu' : u' < 2) (hv' : v' < 11) (hf : f < 8) : ch1 (u * 2 + u') (v * 11 + v') (c + 4) (e * 8 + f) = 101376 + (c * 25344 + ((u * 24 + v * 8 + e) * 176 + (u' * 88 + v' * 8 + f))) := by
  unfold ch1
  rw [(dg hu').1, (dg hu').2, (dg hv').1, (dg hv').2, (dg hf).1, (dg hf).2, Nat.add_sub_cancel]
theorem lu_back1 (u u' v v' s s' e f : Nat) (hu : u < 6) (hu' : u' < 2) (hv : v < 3) (hv' : v' < 11) (hs : s < 2) (hs' : s' < 2) (he : e < 8) (hf : f < 8) (p : Nat) (hp : p = (u * 48 + v * 16 + s * 8 + e) * 352 + (u' * 176 + v' * 16 + s' * 8 + f)) :
    p < 101376 ∧ pj1 p = u * 2 + u' ∧ pm1 p = v * 11 + v' ∧ pk1 p = s * 2 + s' ∧ pi1 p = e * 8 + f := by
  have bX : u' * 176 + v' * 16 + s' * 8 + f < 352 := by omega
  have bY : u * 48 + v * 16 + s * 8 + e < 288 := by omega
  have hA : p < 101376 := by omega
  have e1 := dg (q := u * 48 + v * 16 + s * 8 + e) bX
  rw [← hp] at e1
  obtain ⟨y1, y2, y3, y4⟩ := mixY u v s e hv hs he
  obtain ⟨x1, x2, x3, x4⟩ := mixX u' v' s' f hv' hs' hf
  unfold pj1 pm1 pk1 pi1
  rw [if_pos hA, if_pos hA, if_pos hA, if_pos hA, e1.1, e1.2, y1, y2, y3, y4, x1, x2, x3, x4]
  exact ⟨hA, rfl, rfl, rfl, rfl⟩
theorem ch_back1 (u u' v v' c e f : Nat) (hu : u < 6) (hu' : u' < 2) (hv : v < 3) (hv' : v' < 11) (hc : c < 2) (he : e < 8) (hf : f < 8) (p : Nat) (hp : p = 101376 + (c * 25344 + ((u * 24 + v * 8 + e) * 176 + (u' * 88 + v' * 8 + f)))) :
    ¬ p < 101376 ∧ p < 152064 ∧ pj1 p = u * 2 + u' ∧ pm1 p = v * 11 + v' ∧ pk1 p = c + 4 ∧ pi1 p = e * 8 + f := by
  have bX : u' * 88 + v' * 8 + f < 176 := by omega
  have bY : u * 24 + v * 8 + e < 144 := by omega
  have bq : (u * 24 + v * 8 + e) * 176 + (u' * 88 + v' * 8 + f) < 25344 := by omega
  have hA : ¬ p < 101376 := by omega
  have hp2 : p - 101376 = c * 25344 + ((u * 24 + v * 8 + e) * 176 + (u' * 88 + v' * 8 + f)) := by rw [hp, Nat.add_sub_cancel_left]
  have hB : p < 152064 := by omega
  have e0 := dg (q := c) bq
  rw [← hp2] at e0
  have e1 := dg (q := u * 24 + v * 8 + e) bX
  obtain ⟨y1, y2, y4⟩ := mixy u v e hv he
  obtain ⟨x1, x2, x4⟩ := mixx u' v' f hv' hf
  unfold pj1 pm1 pk1 pi1
  rw [if_neg hA, if_neg hA, if_neg hA, if_neg hA, e0.1, e0.2, e1.1, e1.2, y1, y2, y4, x1, x2, x4]
  exact ⟨hA, hB, rfl, rfl, rfl, rfl⟩
theorem parts_ok1 {p : Nat} (hp : p < 152064) : (pj1 p < 12 ∧ pm1 p < 33 ∧ pk1 p < 6 ∧ pi1 p < 64) ∧ ix1 (pj1 p) (pm1 p) (pk1 p) (pi1 p) = p := by
  by_cases h : p < 101376
  · obtain ⟨Y, X, hX, he⟩ := split 352 p (by decide)
    have hY : Y < 288 := by omega
    obtain ⟨u, v, s, e, hv, hs, hee, rfl⟩ := ofY Y
    obtain ⟨u', v', s', f, hv', hs', hf, rfl⟩ := ofX X
    have hu : u < 6 := by omega
    have hu' : u' < 2 := by omega
    obtain ⟨_, h2, h3, h4, h5⟩ := lu_back1 u u' v v' s s' e f hu hu' hv hv' hs hs' hee hf p he
    rw [h2, h3, h4, h5]
    refine ⟨⟨by omega, by omega, by omega, by omega⟩, ?_⟩
    unfold ix1
    rw [if_pos (by omega), lu_of1 u u' v v' s s' e f hu' hv' hs' hf]
    exact he.symm
  · obtain ⟨c, r, hr, he⟩ := split 25344 (p - 101376) (by decide)
    have hc : c < 2 := by omega
    obtain ⟨Y, X, hX, rfl⟩ := split 176 r (by decide)
    have hY : Y < 144 := by omega
    obtain ⟨u, v, e, hv, hee, rfl⟩ := ofy Y
    obtain ⟨u', v', f, hv', hf, rfl⟩ := ofx X
    have hu : u < 6 := by omega
    have hu' : u' < 2 := by omega
    have hpe : p = 101376 + (c * 25344 + ((u * 24 + v * 8 + e) * 176 + (u' * 88 + v' * 8 + f))) := by rw [← he, Nat.add_sub_cancel' (Nat.le_of_not_lt h)]
    obtain ⟨_, _, h2, h3, h4, h5⟩ := ch_back1 u u' v v' c e f hu hu' hv hv' hc hee hf p hpe
    rw [h2, h3, h4, h5]
    refine ⟨⟨by omega, by omega, by omega, by omega⟩, ?_⟩
    unfold ix1
    rw [if_neg (by omega), ch_of1 u u' v v' c e f hu' hv' hf]
    exact hpe.symm
theorem ing_of (n : Int) (q : Nat) (h : q < grN n) : inG n (grF n q) = true := by unfold inG; rw [decide_eq_true_eq]; exact ixF_yes rfl _ h
theorem cE_ok (n g a : Int) (hn : n = 0 ∨ n = 1) (hg : inG n g = true) (ha : 1 ≤ a ∧ a ≤ 33) : cE n g a = 0 := by unfold cE; rw [if_pos hn, if_pos hg, if_neg (by omega)]
theorem pl_row (n g a k : Int) (hn : n = 0 ∨ n = 1) (hg : inG n g = true) (ha : 1 ≤ a ∧ a ≤ 33) (hk : 1 ≤ k ∧ k ≤ 6) : Pt.pA n g a k = Pt.bA n (cX n g a) (cY n g a) k ∧ Pt.pS n g a k = Pt.bS n k ∧ Pt.pE n g a k = 0 := by
  have hE : Pt.pE n g a k = 0 := by unfold Pt.pE; rw [if_neg (by rw [cE_ok n g a hn hg ha]; decide), if_neg (by omega)]
  exact ⟨by unfold Pt.pA; rw [if_pos hE], by unfold Pt.pS; rw [if_pos hE], hE⟩
theorem ix_pl0 (j a k i : Nat) (hj : j < 3) (ha : 1 ≤ a ∧ a ≤ 33) (hk : 1 ≤ k ∧ k ≤ 6) : (ix0 j (a - 1) (k - 1) i : Int) = Pt.bA 0 (cX 0 (grF 0 j) a) (cY 0 (grF 0 j) a) k + (i : Int) / 8 * Pt.bS 0 k + (i : Int) % 8 := by
  have hc := cE_ok 0 (grF 0 j) a (by decide) (ing_of 0 j hj) (by omega)
  have eX : cX 0 (grF 0 j) a = ((a : Int) - 1) % 11 * 16 := by
    unfold cX; rw [if_pos hc, if_neg (by decide)]; omega
  have eY : cY 0 (grF 0 j) a = ((a : Int) - 1) / 11 * 16 + (j : Int) * 48 := by
    unfold cY; rw [if_pos hc]; unfold grF; omega
  rw [eX, eY]
  unfold Pt.bA Pt.bS
  rw [show wV 0 = 176 from rfl, show hV 0 = 144 from rfl]
  rcases (by omega : k = 1 ∨ k = 2 ∨ k = 3 ∨ k = 4 ∨ k = 5 ∨ k = 6) with rfl | rfl | rfl | rfl | rfl | rfl
  · rw [if_pos (by decide), if_pos (by decide)]; show ((lu0 j (a - 1) 0 i : Nat) : Int) = _; unfold lu0; omega
  · rw [if_pos (by decide), if_pos (by decide)]; show ((lu0 j (a - 1) 1 i : Nat) : Int) = _; unfold lu0; omega
  · rw [if_pos (by decide), if_pos (by decide)]; show ((lu0 j (a - 1) 2 i : Nat) : Int) = _; unfold lu0; omega
  · rw [if_pos (by decide), if_pos (by decide)]; show ((lu0 j (a - 1) 3 i : Nat) : Int) = _; unfold lu0; omega
  · rw [if_neg (by decide), if_neg (by decide)]; show ((ch0 j (a - 1) 4 i : Nat) : Int) = _; unfold ch0; omega
  · rw [if_neg (by decide), if_neg (by decide)]; show ((ch0 j (a - 1) 5 i : Nat) : Int) = _; unfold ch0; omega
theorem ix_pl1 (j a k i : Nat) (hj : j < 12) (ha : 1 ≤ a ∧ a ≤ 33) (hk : 1 ≤ k ∧ k ≤ 6) : (ix1 j (a - 1) (k - 1) i : Int) = Pt.bA 1 (cX 1 (grF 1 j) a) (cY 1 (grF 1 j) a) k + (i : Int) / 8 * Pt.bS 1 k + (i : Int) % 8 := by
  have hc := cE_ok 1 (grF 1 j) a (by decide) (ing_of 1 j hj) (by omega)
  have eX : cX 1 (grF 1 j) a = ((a : Int) - 1) % 11 * 16 + (j : Int) % 2 * 176 := by
    unfold cX; rw [if_pos hc, if_pos rfl]; unfold grF; omega
  have eY : cY 1 (grF 1 j) a = ((a : Int) - 1) / 11 * 16 + (j : Int) / 2 * 48 := by
    unfold cY; rw [if_pos hc]; unfold grF; omega
  rw [eX, eY]
  unfold Pt.bA Pt.bS
  rw [show wV 1 = 352 from rfl, show hV 1 = 288 from rfl]
  rcases (by omega : k = 1 ∨ k = 2 ∨ k = 3 ∨ k = 4 ∨ k = 5 ∨ k = 6) with rfl | rfl | rfl | rfl | rfl | rfl
  · rw [if_pos (by decide), if_pos (by decide)]; show ((lu1 j (a - 1) 0 i : Nat) : Int) = _; unfold lu1; omega
  · rw [if_pos (by decide), if_pos (by decide)]; show ((lu1 j (a - 1) 1 i : Nat) : Int) = _; unfold lu1; omega
  · rw [if_pos (by decide), if_pos (by decide)]; show ((lu1 j (a - 1) 2 i : Nat) : Int) = _; unfold lu1; omega
  · rw [if_pos (by decide), if_pos (by decide)]; show ((lu1 j (a - 1) 3 i : Nat) : Int) = _; unfold lu1; omega
  · rw [if_neg (by decide), if_neg (by decide)]; show ((ch1 j (a - 1) 4 i : Nat) : Int) = _; unfold ch1; omega
  · rw [if_neg (by decide), if_neg (by decide)]; show ((ch1 j (a - 1) 5 i : Nat) : Int) = _; unfold ch1; omega
end Wh
end Go.Proofs.YtbmglemjfodfhaaGreat
