/- frame.Place. -/
import Derived.Test.YtkeempljogjceaaPar
import Derived.BigRegionIn
namespace Go.Proofs.Ytkeempljogjceaa
open Go.RowKit Go.Shelf
attribute [local go_sem] Oper.semAt_some
namespace Pt
open Fr

theorem cE_cases (n g a : Int) (h : cE n g a = 0) : (n = 0 ∨ n = 1) ∧ inG n g = true ∧ 1 ≤ a ∧ a ≤ 33 := by
  unfold cE at h
  by_cases h1 : n = 0 ∨ n = 1
  · rw [if_pos h1] at h
    by_cases h2 : inG n g = true
    · rw [if_pos h2] at h
      by_cases h3 : a < 1 ∨ 33 < a
      · rw [if_pos h3] at h; omega
      · exact ⟨h1, h2, by omega, by omega⟩
    · rw [if_neg h2] at h; omega
  · rw [if_neg h1] at h; omega
theorem cX_bd (n g a : Int) (h : cE n g a = 0) : 0 ≤ cX n g a ∧ cX n g a + 16 ≤ wV n := by
  obtain ⟨h1, h2, h3, h4⟩ := cE_cases n g a h
  unfold cX
  rw [if_pos h]
  rcases h1 with rfl | rfl
  · rw [if_neg (by decide), show wV 0 = 176 from rfl]; omega
  · have := inG_bd1 h2
    rw [if_pos rfl, show wV 1 = 352 from rfl]; omega
theorem cY_bd (n g a : Int) (h : cE n g a = 0) : 0 ≤ cY n g a ∧ cY n g a + 16 ≤ hV n := by
  obtain ⟨h1, h2, h3, h4⟩ := cE_cases n g a h
  unfold cY
  rw [if_pos h]
  rcases h1 with rfl | rfl
  · rw [show hV 0 = 144 from rfl, inG_0] at *
    simp at h2
    omega
  · have := inG_bd1 h2
    rw [show hV 1 = 288 from rfl]; omega
theorem c_bd (n g a : Int) (h : cE n g a = 0) : (0 ≤ cX n g a ∧ cX n g a ≤ 400) ∧ (0 ≤ cY n g a ∧ cY n g a ≤ 400) := by
  have h1 := cX_bd n g a h
  have h2 := cY_bd n g a h
  have h3 := (cE_cases n g a h).1
  have e1 : wV 0 = 176 := rfl
  have e2 : wV 1 = 352 := rfl
  have e3 : hV 0 = 144 := rfl
  have e4 : hV 1 = 288 := rfl
  rcases h3 with rfl | rfl <;> omega
def bA (n X Y k : Int) : Int := if k ≤ 4 then (Y + (k - 1) / 2 * 8) * wV n + X + (k - 1) % 2 * 8 else wV n * hV n + (k - 5) * (wV n * hV n / 4) + Y / 2 * (wV n / 2) + X / 2
def bS (n k : Int) : Int := if k ≤ 4 then wV n else wV n / 2
theorem parts_mem (n X Y : Int) (hn : n = 0 ∨ n = 1) (x : Part) (h : x ∈ partsL n X Y 2) : (1 ≤ x.1 ∧ x.1 ≤ 6) ∧ x.2.1 = bA n X Y x.1 ∧ x.2.2 = bS n x.1 := by
  simp only [partsL, lumaL, List.range_succ, List.range_zero, List.map_append, List.map_cons, List.map_nil, List.nil_append, List.cons_append, List.mem_cons, List.not_mem_nil, or_false] at h
  have e1 : wV 0 = 176 := rfl
  have e2 : wV 1 = 352 := rfl
  have e3 : hV 0 = 144 := rfl
  have e4 : hV 1 = 288 := rfl
  rcases hn with rfl | rfl <;> rcases h with rfl | rfl | rfl | rfl | rfl | rfl <;> simp only [lumaP, chrP, bA, bS, e1, e2, e3, e4] <;> refine ⟨by omega, ?_, ?_⟩ <;> first | (rw [if_pos (by decide)]; omega) | (rw [if_neg (by decide)]; omega) | (rw [if_pos (by decide)]) | (rw [if_neg (by decide)])
theorem parts_hit (n X Y k : Int) (hk : 1 ≤ k ∧ k ≤ 6) : ∃ x ∈ partsL n X Y 2, x.1 = k := by
  simp only [partsL, lumaL, List.range_succ, List.range_zero, List.map_append, List.map_cons, List.map_nil, List.nil_append, List.cons_append]
  rcases (by omega : k = 1 ∨ k = 2 ∨ k = 3 ∨ k = 4 ∨ k = 5 ∨ k = 6) with rfl | rfl | rfl | rfl | rfl | rfl
  · exact ⟨lumaP n X Y 0, by simp, rfl⟩
  · exact ⟨lumaP n X Y 1, by simp, rfl⟩
  · exact ⟨lumaP n X Y 2, by simp, rfl⟩
  · exact ⟨lumaP n X Y 3, by simp, rfl⟩
  · exact ⟨chrP n X Y 0, by simp, rfl⟩
  · exact ⟨chrP n X Y 1, by simp, rfl⟩
theorem parts_len (n X Y : Int) : (partsL n X Y 2).length = 6 := partsL_len n X Y 2
theorem kpA_alloc {B l : Nat} (V : World) (o : Obj) : KpA B l V (V.alloc o) := ⟨by simp, fun i _ _ o2 h2 => (Below.heap_alloc V o i (Array.getElem?_eq_some_iff.1 h2).1).trans h2⟩
theorem kpA_refl {B l : Nat} (V : World) : KpA B l V V := ⟨Nat.le_refl _, fun _ _ _ _ h => h⟩
theorem kpA_set {B l : Nat} (V : World) (b : Nat) (hb : b < B) (v : Value) : KpA B l V (V.setCell ⟨b, 0, none⟩ v) := ⟨by simp, fun i hi _ o ho => ((grownBy_setCell' V b v).block i (Array.getElem?_eq_some_iff.1 ho).1 (fun e => by have := Option.some.inj e; omega)).trans ho⟩
theorem results_box3 {fn : Func} {p q r : Tmp} (hr : fn.results = #[.cell p 3, .cell q 3, .cell r 26]) (tmps : Array Value) {w : World} {b1 b2 b3 : Nat} {v1 v2 v3 : Value} {T1 T2 T3 : TypeId}
    (hp : tmps.getD p undef = .pointer (some ⟨b1, 0, none⟩)) (hq : tmps.getD q undef = .pointer (some ⟨b2, 0, none⟩)) (hs : tmps.getD r undef = .pointer (some ⟨b3, 0, none⟩)) (h1 : Boxed w b1 T1 v1) (h2 : Boxed w b2 T2 v2) (h3 : Boxed w b3 T3 v3) :
    (results fn tmps).run Try.prog w = .ok (.tuple #[v1, v2, v3]) w := by
  have c1 := h1.cell
  have c2 := h2.cell
  have c3 := h3.cell
  have hp' : tmps[p]?.getD undef = .pointer (some ⟨b1, 0, none⟩) := by simpa using hp
  have hq' : tmps[q]?.getD undef = .pointer (some ⟨b2, 0, none⟩) := by simpa using hq
  have hs' : tmps[r]?.getD undef = .pointer (some ⟨b3, 0, none⟩) := by simpa using hs
  simp [results, hr, hp', hq', hs', asAddr, loadVar, go_sem, c1, c2, c3, Try.underlying3, Try.underlying26]

set_option maxRecDepth 100000 in
set_option maxHeartbeats 4000000 in
theorem Place_ok (n g a k : Int) (hn : n = 0 ∨ n = 1) (w : World) (hc : cE n g a = 0) (hX : 0 ≤ cX n g a ∧ cX n g a ≤ 400) (hY : 0 ≤ cY n g a ∧ cY n g a ≤ 400) :
    Calls Try.prog 39 #[.int .i64 n, .int .i64 g, .int .i64 a, .int .i64 k] w fun e w' =>
      (∃ x, x ∈ partsL n (cX n g a) (cY n g a) 2 ∧ x.1 = k ∧ e = .returned (.tuple #[.int .i64 x.2.1, .int .i64 x.2.2, .int .i64 0]) ∧ Below w.heap.size w w') ∨
      ((∀ x ∈ partsL n (cX n g a) (cY n g a) 2, x.1 ≠ k) ∧ e = .returned (.tuple #[.int .i64 0, .int .i64 0, .int .i64 3]) ∧ Below w.heap.size w w') := by
  obtain ⟨X, hXe⟩ : ∃ X, cX n g a = X := ⟨_, rfl⟩
  obtain ⟨Y, hYe⟩ : ∃ Y, cY n g a = Y := ⟨_, rfl⟩
  have HC : ∀ v, Calls Try.prog 43 #[.int .i64 n, .int .i64 g, .int .i64 a] v fun e w' => e = .returned (.tuple #[.int .i64 X, .int .i64 Y, .int .i64 0]) ∧ Below v.heap.size v w' := fun v => by
    have := Corner_any n g a v
    rwa [hXe, hYe, hc] at this
  rw [hXe] at hX
  rw [hYe] at hY
  rw [hXe, hYe]
  clear hXe hYe hc
  have b0 := (((Boxed.new w 3 (.int .i64 k)).alloc (.cells #[.int .i64 0] 3)).alloc (.cells #[.int .i64 0] 3)).alloc (.cells #[.int .i64 0] 26)
  have b1 := ((Boxed.new (w.alloc (.cells #[.int .i64 k] 3)) 3 (.int .i64 0)).alloc (.cells #[.int .i64 0] 3)).alloc (.cells #[.int .i64 0] 26)
  have b2 := (Boxed.new ((w.alloc (.cells #[.int .i64 k] 3)).alloc (.cells #[.int .i64 0] 3)) 3 (.int .i64 0)).alloc (.cells #[.int .i64 0] 26)
  have b3 := Boxed.new (((w.alloc (.cells #[.int .i64 k] 3)).alloc (.cells #[.int .i64 0] 3)).alloc (.cells #[.int .i64 0] 3)) 26 (.int .i64 0)
  have bb : Below w.heap.size w ((((w.alloc (.cells #[.int .i64 k] 3)).alloc (.cells #[.int .i64 0] 3)).alloc (.cells #[.int .i64 0] 3)).alloc (.cells #[.int .i64 0] 26)) := ((((Below.refl w.heap.size w).alloc (Nat.le_refl _) _).alloc (by simp) _).alloc (by simp; omega) _).alloc (by simp; omega) _
  simp only [World.size_alloc] at b1 b2 b3
  refine (callsIn_wide (n := 12)).1 ?_
  refine callsIn_of_wp_marks Try.func39 rfl trivial ?_ rfl
  simp only [Try.ntmps39, List.size_toArray, List.length_cons, List.length_nil, Nat.reduceAdd, Nat.reduceSub, Array.replicate_succ, Array.replicate_zero, List.push_toArray, List.append_toArray, List.nil_append, List.cons_append]
  gi_wp2_with (refine ⟨trivial, ?_⟩; gi_at_call 43; refine (callsIn_wide.2 (HC _)).mono ?_)
  obtain ⟨W0, hW0⟩ : ∃ W0, ((((w.alloc (.cells #[.int .i64 k] 3)).alloc (.cells #[.int .i64 0] 3)).alloc (.cells #[.int .i64 0] 3)).alloc (.cells #[.int .i64 0] 26)) = W0 := ⟨_, rfl⟩
  rw [hW0] at b0 b1 b2 b3 bb ⊢
  clear hW0
  rintro e W1 ⟨rfl, g1⟩
  have b0 := b0.kept (grown_of_below g1 none) (by simp)
  have b1 := b1.kept (grown_of_below g1 none) (by simp)
  have b2 := b2.kept (grown_of_below g1 none) (by simp)
  have b3 := b3.kept (grown_of_below g1 none) (by simp)
  have bb := bb.trans (g1.mono bb.size)
  clear g1 HC
  gi_wp2_with (refine ⟨trivial, ?_⟩; gi_at_call 55; refine (parts_in n X Y _ _).mono ?_; rintro e w' ⟨rfl, rfl⟩)
  have d1 := ((Boxed.new W1 82 (.int .i64 n)).alloc (.cells #[.int .i64 X] 3)).alloc (.cells #[.int .i64 Y] 3)
  have d2 := (Boxed.new (W1.alloc (.cells #[.int .i64 n] 82)) 3 (.int .i64 X)).alloc (.cells #[.int .i64 Y] 3)
  have d3 := Boxed.new ((W1.alloc (.cells #[.int .i64 n] 82)).alloc (.cells #[.int .i64 X] 3)) 3 (.int .i64 Y)
  simp only [World.size_alloc] at d2 d3
  have gp : Below W1.heap.size W1 (((W1.alloc (.cells #[.int .i64 n] 82)).alloc (.cells #[.int .i64 X] 3)).alloc (.cells #[.int .i64 Y] 3)) := (((Below.refl W1.heap.size W1).alloc (Nat.le_refl _) _).alloc (by simp) _).alloc (by simp; omega) _
  have sp : (((W1.alloc (.cells #[.int .i64 n] 82)).alloc (.cells #[.int .i64 X] 3)).alloc (.cells #[.int .i64 Y] 3)).heap.size = W1.heap.size + 3 := by simp
  obtain ⟨Wp, hWp⟩ : ∃ Wp, (((W1.alloc (.cells #[.int .i64 n] 82)).alloc (.cells #[.int .i64 X] 3)).alloc (.cells #[.int .i64 Y] 3)) = Wp := ⟨_, rfl⟩
  rw [hWp] at d1 d2 d3 gp sp ⊢
  clear hWp
  have l3 := b3.lt
  have b0 := b0.kept (grown_of_below gp none) (by simp)
  have b1 := b1.kept (grown_of_below gp none) (by simp)
  have b2 := b2.kept (grown_of_below gp none) (by simp)
  have b3 := b3.kept (grown_of_below gp none) (by simp)
  have bb := bb.trans (gp.mono bb.size)
  clear gp
  refine rangeN (gf := 67) (lb := #[.pointer (some ⟨W1.heap.size, 0, none⟩), .pointer (some ⟨W1.heap.size + 1, 0, none⟩), .pointer (some ⟨W1.heap.size + 2, 0, none⟩)]) rfl (enters_of Try.func67 (by kernel_rfl) rfl)
    (parts_seq n X Y hn 11 (by decide) hX hY W1.heap.size _ _ _ (Nat.le_refl _) (by omega) (by omega) Wp d1 d2 d3) kpA_t kpA_l (fun _ => rfl)
    (fun pre V => ((∀ x ∈ pre, x.1 ≠ k) ∧ Boxed V w.heap.size 3 (.int .i64 k) ∧ Boxed V (w.heap.size + 1) 3 (.int .i64 0) ∧ Boxed V (w.heap.size + 1 + 1) 3 (.int .i64 0) ∧ Boxed V (w.heap.size + 1 + 1 + 1) 26 (.int .i64 0)) ∧ Below w.heap.size w V)
    (fun c pre V => c = .ret ∧ ∃ x, x ∈ pre ∧ x.1 = k ∧ (Boxed V (w.heap.size + 1) 3 (.int .i64 x.2.1) ∧ Boxed V (w.heap.size + 1 + 1) 3 (.int .i64 x.2.2) ∧ Boxed V (w.heap.size + 1 + 1 + 1) 26 (.int .i64 0)) ∧ Below w.heap.size w V)
    (OwnFrom.and (OwnFrom.and (fun _ _ _ _ h _ _ => h) (OwnFrom.and (Own.from (boxed_own _ _ (fun _ => _)) _) (OwnFrom.and (Own.from (boxed_own _ _ (fun _ => _)) _) (OwnFrom.and (Own.from (boxed_own _ _ (fun _ => _)) _) (Own.from (boxed_own _ _ (fun _ => _)) _))))) (ownFrom_below (Nat.le_refl _) (by omega)))
    (fun c => fun s A C row ⟨h1, x, h2, h3, ⟨e1, e2, e3⟩, e4⟩ hg hr => ⟨h1, x, h2, h3, ⟨Own.from (boxed_own _ _ (fun _ => _)) _ s A C row e1 hg hr, Own.from (boxed_own _ _ (fun _ => _)) _ s A C row e2 hg hr, Own.from (boxed_own _ _ (fun _ => _)) _ s A C row e3 hg hr⟩, ownFrom_below (Nat.le_refl _) (by omega) s A C row e4 hg hr⟩)
    ⟨⟨fun _ h => (by cases h), b0, b1, b2, b3⟩, bb⟩
    (fun x a' V => ∃ q, V.heap[q]? = some (.cells #[.int .i64 x.1, .int .i64 x.2.1, .int .i64 x.2.2] 85 (0, 0)) ∧ a' = { tmps := #[.int .i64 n, .int .i64 g, .int .i64 a, .int .i64 k, undef, undef, undef, .pointer (some ⟨w.heap.size, 0, none⟩), .pointer (some ⟨w.heap.size + 1, 0, none⟩), .pointer (some ⟨w.heap.size + 1 + 1, 0, none⟩), .pointer (some ⟨w.heap.size + 1 + 1 + 1, 0, none⟩), .int .i64 X, .int .i64 Y, .int .i64 0, .pointer (some ⟨q, 0, none⟩), .tuple #[.int .i64 X, .int .i64 Y, .int .i64 0], .int .i64 n, .int .i64 g, .int .i64 a, .tuple #[.int .i64 X, .int .i64 Y, .int .i64 0], .int .i64 X, .int .i64 Y, .int .i64 0, .int .i64 0, .bool false, undef, .int .i64 n, .int .i64 X, .int .i64 Y, .func (.func 67) #[] #[.pointer (some ⟨W1.heap.size, 0, none⟩), .pointer (some ⟨W1.heap.size + 1, 0, none⟩), .pointer (some ⟨W1.heap.size + 2, 0, none⟩)], .agg #[.int .i64 x.1, .int .i64 x.2.1, .int .i64 x.2.2], undef, undef, undef, undef, undef, undef, undef, undef], defers := [] })
    (fun x a' => own_cells _ _ _)
    ?assign ?body ?done ?stop
  case assign =>
    rintro l pre x V K sV hl ⟨⟨h, h0, h1, h2, h3⟩, h4⟩ hK
    dsimp only [enc]
    gi_wp2
    exact hK _ _ ((KeepsOthers.alloc _ _).from _) (kpA_alloc V _) ⟨⟨h, h0.alloc _, h1.alloc _, h2.alloc _, h3.alloc _⟩, h4.alloc h4.size _⟩ ⟨V.heap.size, heap_alloc_new V _, rfl⟩
  case body =>
    rintro l pre ⟨i, o, st⟩ a' V hl ⟨r, hr⟩ ⟨⟨hne, h0, h1, h2, h3⟩, h4⟩ ⟨q, hq, rfl⟩ hlt
    dsimp only at *
    obtain ⟨q0, q1, q2⟩ := cells3 hq
    have c0 := h0.cell
    by_cases hik : i = k
    · have t1 : (i == k) = true := by simp [hik]
      have c1 := h1.cell
      have c2 := h2.cell
      have c3 := h3.cell
      have f1 := h1.frozen
      have f2 := h2.frozen
      have f3 := h3.frozen
      have D1 := Lib.hid h1
      have D2 := Lib.hid h2
      have D3 := Lib.hid h3
      have D4 := Lib.hid h4
      have HI := Lib.hid hik
      have qn : q ≠ w.heap.size + 1 := fun e => by
        have h1' : V.heap[w.heap.size + 1]? = some (.cells #[.int .i64 0] 3 (0, 0)) := h1
        rw [← e, hq] at h1'
        injection h1' with h1'
        injection h1' with h1'
        cases h1'
      have q1' : (V.setCell ⟨w.heap.size + 1, 0, none⟩ (.int .i64 o)).cell? ⟨q, 1, none⟩ = some (.int .i64 o) := by rw [World.cell?_setCell_other _ _ _ _ (fun e => qn (Addr.mk.inj e).1.symm)]; exact q1
      have q2' : (V.setCell ⟨w.heap.size + 1, 0, none⟩ (.int .i64 o)).cell? ⟨q, 2, none⟩ = some (.int .i64 st) := by rw [World.cell?_setCell_other _ _ _ _ (fun e => qn (Addr.mk.inj e).1.symm)]; exact q2
      clear h0 h1 h2 h3 h4 hq hr hik hne
      gi_wp2
      have P1 := Lib.hid ((D1.out.set (.int .i64 o)).other (B' := w.heap.size + 1 + 1) (by omega) (.int .i64 st) |>.other (B' := w.heap.size + 1 + 1 + 1) (by omega) (.int .i64 0))
      have P2 := Lib.hid (((D2.out.other (B' := w.heap.size + 1) (by omega) (.int .i64 o)).set (.int .i64 st)).other (B' := w.heap.size + 1 + 1 + 1) (by omega) (.int .i64 0))
      have P3 := Lib.hid (((D3.out.other (B' := w.heap.size + 1) (by omega) (.int .i64 o)).other (B' := w.heap.size + 1 + 1) (by omega) (.int .i64 st)).set (.int .i64 0))
      have P4 := Lib.hid (((D4.out.setCell (p := ⟨w.heap.size + 1, 0, none⟩) (by simp) (.int .i64 o)).setCell (p := ⟨w.heap.size + 1 + 1, 0, none⟩) (by simp; omega) (.int .i64 st)).setCell (p := ⟨w.heap.size + 1 + 1 + 1, 0, none⟩) (by simp; omega) (.int .i64 0))
      have P5 := Lib.hid (kpA_t (kpA_t (kpA_set (B := W1.heap.size) (l := l) V (w.heap.size + 1) (by omega) (.int .i64 o)) (kpA_set _ (w.heap.size + 1 + 1) (by omega) (.int .i64 st))) (kpA_set _ (w.heap.size + 1 + 1 + 1) (by omega) (.int .i64 0)))
      have P6 := Lib.hid ((((KeepsOthers.setCell V ⟨w.heap.size + 1, 0, none⟩ (.int .i64 o)).trans (KeepsOthers.setCell _ ⟨w.heap.size + 1 + 1, 0, none⟩ (.int .i64 st))).trans (KeepsOthers.setCell _ ⟨w.heap.size + 1 + 1 + 1, 0, none⟩ (.int .i64 0))).from Wp.heap.size)
      gi_region
      all_goals
        gi_wp2
        exact ⟨⟨P6.out.size, P6.out.same⟩, P5.out, rfl, (i, o, st), by simp, HI.out, ⟨P1.out, P2.out, P3.out⟩, P4.out.drew⟩
    · have t1 : (i == k) = false := by simp [hik]
      have D0 := Lib.hid h0
      have D1 := Lib.hid h1
      have D2 := Lib.hid h2
      have D3 := Lib.hid h3
      have D4 := Lib.hid h4
      have HI := Lib.hid hik
      have HN := Lib.hid hne
      clear h0 h1 h2 h3 h4 hq hr hik hne
      gi_wp2
      exact ⟨KeepsFrom.refl _ _, kpA_refl V, ⟨fun x hx => by
        rcases List.mem_append.1 hx with h | h
        · exact HN.out x h
        · rw [List.mem_singleton.1 h]; exact HI.out, D0.out, D1.out, D2.out, D3.out⟩, D4.out⟩
  case stop =>
    rintro Dd c pre V hD hSp ⟨rfl, x, hx, hk, ⟨e1, e2, e3⟩, e4⟩ hK
    gi_wp2
    refine ⟨by simp, .inl ⟨_, _, rfl, run_takeDeferred hK, ?_⟩⟩
    have hDl := (Array.getElem?_eq_some_iff.1 hK).1
    have e1 := e1.kept (grownBy_putObj' V Dd (.deferred none)) (fun e => by have := Option.some.inj e; omega)
    have e2 := e2.kept (grownBy_putObj' V Dd (.deferred none)) (fun e => by have := Option.some.inj e; omega)
    have e3 := e3.kept (grownBy_putObj' V Dd (.deferred none)) (fun e => by have := Option.some.inj e; omega)
    exact ⟨_, results_box3 rfl _ rfl rfl rfl e1 e2 e3, .inl ⟨x, hSp.subset hx, hk, rfl, e4.grown (grownBy_putObj' V Dd (.deferred none)) e4.size (fun g hg => by cases hg; omega)⟩⟩
  case done =>
    rintro Dd ys V hD rfl ⟨⟨hne, h0, h1, h2, h3⟩, h4⟩ hK
    have c1 := h1.cell
    have c2 := h2.cell
    have c3 := h3.cell
    have f1 := h1.frozen
    have f2 := h2.frozen
    have f3 := h3.frozen
    have D1 := Lib.hid h1
    have D2 := Lib.hid h2
    have D3 := Lib.hid h3
    have D4 := Lib.hid h4
    have HK := Lib.hid hK
    have HN := Lib.hid hne
    clear h0 h1 h2 h3 h4 hK hne
    gi_wp2
    have P1 := (D1.out.set (.int .i64 0)).other (B' := w.heap.size + 1 + 1) (by omega) (.int .i64 0) |>.other (B' := w.heap.size + 1 + 1 + 1) (by omega) (.int .i64 3)
    have P2 := ((D2.out.other (B' := w.heap.size + 1) (by omega) (.int .i64 0)).set (.int .i64 0)).other (B' := w.heap.size + 1 + 1 + 1) (by omega) (.int .i64 3)
    have P3 := ((D3.out.other (B' := w.heap.size + 1) (by omega) (.int .i64 0)).other (B' := w.heap.size + 1 + 1) (by omega) (.int .i64 0)).set (.int .i64 3)
    have P4 := ((D4.out.setCell (p := ⟨w.heap.size + 1, 0, none⟩) (by simp) (.int .i64 0)).setCell (p := ⟨w.heap.size + 1 + 1, 0, none⟩) (by simp; omega) (.int .i64 0)).setCell (p := ⟨w.heap.size + 1 + 1 + 1, 0, none⟩) (by simp; omega) (.int .i64 3)
    have P5 := kpA_t (kpA_t (kpA_set (B := W1.heap.size) (l := 0) V (w.heap.size + 1) (by omega) (.int .i64 0)) (kpA_set _ (w.heap.size + 1 + 1) (by omega) (.int .i64 0))) (kpA_set _ (w.heap.size + 1 + 1 + 1) (by omega) (.int .i64 3))
    have hK2 := P5.2 Dd (by omega) (by omega) _ HK.out
    refine ⟨by simp, .inl ⟨_, _, rfl, run_takeDeferred hK2, ?_⟩⟩
    have e1 := P1.kept (grownBy_putObj' _ Dd (.deferred none)) (fun e => by have := Option.some.inj e; omega)
    have e2 := P2.kept (grownBy_putObj' _ Dd (.deferred none)) (fun e => by have := Option.some.inj e; omega)
    have e3 := P3.kept (grownBy_putObj' _ Dd (.deferred none)) (fun e => by have := Option.some.inj e; omega)
    exact ⟨_, results_box3 rfl _ rfl rfl rfl e1 e2 e3, .inr ⟨HN.out, rfl, P4.grown (grownBy_putObj' _ Dd (.deferred none)) P4.size (fun g hg => by cases hg; omega)⟩⟩

theorem Place_no (n g a k : Int) (w : World) (hc : cE n g a ≠ 0) :
    Calls Try.prog 39 #[.int .i64 n, .int .i64 g, .int .i64 a, .int .i64 k] w fun e w' => e = .returned (.tuple #[.int .i64 0, .int .i64 0, .int .i64 (cE n g a)]) ∧ Below w.heap.size w w' := by
  obtain ⟨E, hE⟩ : ∃ E, cE n g a = E := ⟨_, rfl⟩
  obtain ⟨X, hXe⟩ : ∃ X, cX n g a = X := ⟨_, rfl⟩
  obtain ⟨Y, hYe⟩ : ∃ Y, cY n g a = Y := ⟨_, rfl⟩
  have HC : ∀ v, Calls Try.prog 43 #[.int .i64 n, .int .i64 g, .int .i64 a] v fun e w' => e = .returned (.tuple #[.int .i64 X, .int .i64 Y, .int .i64 E]) ∧ Below v.heap.size v w' := fun v => by
    have := Corner_any n g a v
    rwa [hXe, hYe, hE] at this
  rw [hE] at hc ⊢
  clear hXe hYe hE
  have t0 : (E != 0) = true := by simpa using hc
  clear hc
  have b0 := (((Boxed.new w 3 (.int .i64 k)).alloc (.cells #[.int .i64 0] 3)).alloc (.cells #[.int .i64 0] 3)).alloc (.cells #[.int .i64 0] 26)
  have b1 := ((Boxed.new (w.alloc (.cells #[.int .i64 k] 3)) 3 (.int .i64 0)).alloc (.cells #[.int .i64 0] 3)).alloc (.cells #[.int .i64 0] 26)
  have b2 := (Boxed.new ((w.alloc (.cells #[.int .i64 k] 3)).alloc (.cells #[.int .i64 0] 3)) 3 (.int .i64 0)).alloc (.cells #[.int .i64 0] 26)
  have b3 := Boxed.new (((w.alloc (.cells #[.int .i64 k] 3)).alloc (.cells #[.int .i64 0] 3)).alloc (.cells #[.int .i64 0] 3)) 26 (.int .i64 0)
  have bb : Below w.heap.size w ((((w.alloc (.cells #[.int .i64 k] 3)).alloc (.cells #[.int .i64 0] 3)).alloc (.cells #[.int .i64 0] 3)).alloc (.cells #[.int .i64 0] 26)) := ((((Below.refl w.heap.size w).alloc (Nat.le_refl _) _).alloc (by simp) _).alloc (by simp; omega) _).alloc (by simp; omega) _
  simp only [World.size_alloc] at b1 b2 b3
  go_enter Try.func39, Try.ntmps39
  go_wp2_with (go_at_call 43; refine (HC _).mono ?_)
  obtain ⟨W0, hW0⟩ : ∃ W0, ((((w.alloc (.cells #[.int .i64 k] 3)).alloc (.cells #[.int .i64 0] 3)).alloc (.cells #[.int .i64 0] 3)).alloc (.cells #[.int .i64 0] 26)) = W0 := ⟨_, rfl⟩
  rw [hW0] at b0 b1 b2 b3 bb ⊢
  clear hW0
  rintro e W1 ⟨rfl, g1⟩
  have D1 := Lib.hid (b1.kept (grown_of_below g1 none) (by simp))
  have D2 := Lib.hid (b2.kept (grown_of_below g1 none) (by simp))
  have D3 := Lib.hid (b3.kept (grown_of_below g1 none) (by simp))
  have D4 := Lib.hid (bb.trans (g1.mono bb.size))
  have c1 := D1.out.cell
  have c2 := D2.out.cell
  have c3 := D3.out.cell
  have f1 := D1.out.frozen
  have f2 := D2.out.frozen
  have f3 := D3.out.frozen
  clear g1 HC b0 b1 b2 b3 bb
  have P1 := Lib.hid ((D1.out.set (.int .i64 0)).other (B' := w.heap.size + 1 + 1) (by omega) (.int .i64 0) |>.other (B' := w.heap.size + 1 + 1 + 1) (by omega) (.int .i64 E))
  have P2 := Lib.hid (((D2.out.other (B' := w.heap.size + 1) (by omega) (.int .i64 0)).set (.int .i64 0)).other (B' := w.heap.size + 1 + 1 + 1) (by omega) (.int .i64 E))
  have P3 := Lib.hid (((D3.out.other (B' := w.heap.size + 1) (by omega) (.int .i64 0)).other (B' := w.heap.size + 1 + 1) (by omega) (.int .i64 0)).set (.int .i64 E))
  have P4 := Lib.hid (((D4.out.setCell (p := ⟨w.heap.size + 1, 0, none⟩) (by simp) (.int .i64 0)).setCell (p := ⟨w.heap.size + 1 + 1, 0, none⟩) (by simp; omega) (.int .i64 0)).setCell (p := ⟨w.heap.size + 1 + 1 + 1, 0, none⟩) (by simp; omega) (.int .i64 E))
  go_wp2_with fail
  exact bodyPost_ret (results_box3 rfl _ rfl rfl rfl P1.out P2.out P3.out) rfl ⟨rfl, P4.out⟩

def pE (n g a k : Int) : Int := if cE n g a ≠ 0 then cE n g a else if k < 1 ∨ 6 < k then 3 else 0
def pA (n g a k : Int) : Int := if pE n g a k = 0 then bA n (cX n g a) (cY n g a) k else 0
def pS (n g a k : Int) : Int := if pE n g a k = 0 then bS n k else 0
theorem Place_any (n g a k : Int) (w : World) :
    Calls Try.prog 39 #[.int .i64 n, .int .i64 g, .int .i64 a, .int .i64 k] w fun e w' => e = .returned (.tuple #[.int .i64 (pA n g a k), .int .i64 (pS n g a k), .int .i64 (pE n g a k)]) ∧ Below w.heap.size w w' := by
  by_cases hc : cE n g a = 0
  · have hn := (cE_cases n g a hc).1
    have hb := c_bd n g a hc
    refine (Place_ok n g a k hn w hc hb.1 hb.2).mono ?_
    rintro e w' (⟨x, hx, rfl, rfl, b⟩ | ⟨hno, rfl, b⟩)
    · obtain ⟨h1, h2, h3⟩ := parts_mem n _ _ hn x hx
      have e1 : pE n g a x.1 = 0 := by unfold pE; rw [if_neg (by simpa using hc), if_neg (by omega)]
      refine ⟨?_, b⟩
      unfold pA pS
      rw [e1, if_pos rfl, if_pos rfl, h2, h3]
    · have hk : k < 1 ∨ 6 < k := by
        by_cases h : k < 1 ∨ 6 < k
        · exact h
        · obtain ⟨x, hx, hxk⟩ := parts_hit n (cX n g a) (cY n g a) k (by omega)
          exact absurd hxk (hno x hx)
      have e1 : pE n g a k = 3 := by unfold pE; rw [if_neg (by simpa using hc), if_pos hk]
      refine ⟨?_, b⟩
      unfold pA pS
      rw [e1, if_neg (by decide), if_neg (by decide)]
  · refine (Place_no n g a k w hc).mono ?_
    rintro e w' ⟨rfl, b⟩
    have e1 : pE n g a k = cE n g a := by unfold pE; rw [if_pos hc]
    refine ⟨?_, b⟩
    unfold pA pS
    rw [e1, if_neg hc, if_neg hc]
end Pt
end Go.Proofs.Ytkeempljogjceaa
