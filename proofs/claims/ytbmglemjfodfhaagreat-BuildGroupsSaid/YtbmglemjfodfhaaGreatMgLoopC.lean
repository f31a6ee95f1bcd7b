/- What loop.view's functions come to. | What loop.Filter and loop.Soften come to. | What loop.Soften comes to. -/
import Derived.Test.YtbmglemjfodfhaaGreatMgArrB
import Derived.Test.YtbmglemjfodfhaaGreatMgSlices
import Derived.Test.YtbmglemjfodfhaaGreatPlLoop
import Derived.Deep.RegionHeld3
set_option linter.unusedVariables false
set_option linter.unusedSimpArgs false
namespace Go.Proofs.YtbmglemjfodfhaaGreat
open Go.RowKit
namespace Lo
theorem at_any (b : Nat) (fr st i : Int) (m : Nat) (w : World) (_h0 : 0 ≤ fr) (_h1 : fr ≤ 1000) (_h2 : 0 ≤ st) (_h3 : st ≤ 1000) (h4 : 0 ≤ i) (_h5 : i ≤ 1000) (hm : fr + i * st = m) (hlt : m < 64) :
    Calls Tryz.prog 134 #[.agg #[.pointer (some ⟨b, 0, none⟩), .int .i64 fr, .int .i64 st], .int .i64 i] w fun e w' =>
      e = .returned (.pointer (some ⟨b, m, none⟩)) ∧ Below w.heap.size w w' := by
  have hb1 : 0 ≤ i * st := Int.mul_nonneg (by omega) (by omega)
  have hb2 : i * st ≤ 63 := by omega
  have hm0 : (0 : Int) ≤ fr + i * st := by omega
  have hm1 : fr + i * st < 64 := by omega
  have hmt : (fr + i * st).toNat = m := by omega
  have HM := Lib.hid hm
  clear hm
  go_enter Tryz.func134, Tryz.ntmps134
  go_wp2_with fail
  go_quiet (fail)
  go_wp2
  go_ret
  exact ⟨rfl, below_drewN ((Below.refl _ _).alloc (Nat.le_refl _) _) _⟩
theorem idx8 (g : Nat → Int) (k : Nat) (hk : k < 8) (w : World) :
    (Instr.index 165 (.agg #[.int .i64 (g 0), .int .i64 (g 1), .int .i64 (g 2), .int .i64 (g 3), .int .i64 (g 4), .int .i64 (g 5), .int .i64 (g 6), .int .i64 (g 7)]) (.int .i64 (k : Int))).run Tryz.prog w = .ok (.int .i64 (g k)) w := by
  rcases (by omega : k = 0 ∨ k = 1 ∨ k = 2 ∨ k = 3 ∨ k = 4 ∨ k = 5 ∨ k = 6 ∨ k = 7) with rfl | rfl | rfl | rfl | rfl | rfl | rfl | rfl <;> kernel_rfl
theorem cell3 (w : World) (x y z : Value) (t : TypeId) : (w.alloc (.cells #[x, y, z] t)).cell? ⟨w.heap.size, 0, none⟩ = some x ∧ (w.alloc (.cells #[x, y, z] t)).cell? ⟨w.heap.size, 1, none⟩ = some y ∧ (w.alloc (.cells #[x, y, z] t)).cell? ⟨w.heap.size, 2, none⟩ = some z := by
  have hb := heap_alloc_new w (.cells #[x, y, z] t)
  exact ⟨cell_of_row _ _ 0 _ t (0, 0) hb, cell_of_row _ _ 1 _ t (0, 0) hb, cell_of_row _ _ 2 _ t (0, 0) hb⟩
theorem ss_step {N b ml mr k : Nat} {x0 x1 x2 x3 x4 : Value} {w2 w3 : World}
    (h : w2.cell? ⟨N, 0, none⟩ = some x0 ∧ w2.cell? ⟨N, 1, none⟩ = some x1 ∧ w2.cell? ⟨N, 2, none⟩ = some x2 ∧ w2.cell? ⟨b, ml, none⟩ = some x3 ∧ w2.cell? ⟨b, mr, none⟩ = some x4 ∧ Hid (∃ v, w2.cell? ⟨N + 1, k, none⟩ = some v) ∧ w2.frozen? ⟨N + 1, k, none⟩ = false ∧ N + 1 < w2.heap.size ∧ b < w2.heap.size ∧ Hid (b ≠ N + 1))
    (hw : Below w2.heap.size w2 w3) :
    w3.cell? ⟨N, 0, none⟩ = some x0 ∧ w3.cell? ⟨N, 1, none⟩ = some x1 ∧ w3.cell? ⟨N, 2, none⟩ = some x2 ∧ w3.cell? ⟨b, ml, none⟩ = some x3 ∧ w3.cell? ⟨b, mr, none⟩ = some x4 ∧ Hid (∃ v, w3.cell? ⟨N + 1, k, none⟩ = some v) ∧ w3.frozen? ⟨N + 1, k, none⟩ = false ∧ N + 1 < w3.heap.size ∧ b < w3.heap.size ∧ Hid (b ≠ N + 1) := by
  obtain ⟨h0, h1, h2, h3, h4, h5, h6, h7, h8, h9⟩ := h
  have hN : N < w2.heap.size := by omega
  obtain ⟨v, hv⟩ := h5
  exact ⟨(hw.cell (p := ⟨N, 0, none⟩) hN).trans h0, (hw.cell (p := ⟨N, 1, none⟩) hN).trans h1, (hw.cell (p := ⟨N, 2, none⟩) hN).trans h2, (hw.cell (p := ⟨b, ml, none⟩) h8).trans h3, (hw.cell (p := ⟨b, mr, none⟩) h8).trans h4,
    ⟨v, (hw.cell (p := ⟨N + 1, k, none⟩) h7).trans hv⟩, (hw.frozen (p := ⟨N + 1, k, none⟩) h7).trans h6, Nat.lt_of_lt_of_le h7 hw.size, Nat.lt_of_lt_of_le h8 hw.size, h9⟩
theorem ss_store {N b ml mr k : Nat} {x0 x1 x2 x3 x4 : Value} {w2 : World} (u : Value)
    (h : w2.cell? ⟨N, 0, none⟩ = some x0 ∧ w2.cell? ⟨N, 1, none⟩ = some x1 ∧ w2.cell? ⟨N, 2, none⟩ = some x2 ∧ w2.cell? ⟨b, ml, none⟩ = some x3 ∧ w2.cell? ⟨b, mr, none⟩ = some x4 ∧ Hid (∃ v, w2.cell? ⟨N + 1, k, none⟩ = some v) ∧ w2.frozen? ⟨N + 1, k, none⟩ = false ∧ N + 1 < w2.heap.size ∧ b < w2.heap.size ∧ Hid (b ≠ N + 1)) :
    (w2.setCell ⟨N + 1, k, none⟩ u).cell? ⟨N, 0, none⟩ = some x0 ∧ (w2.setCell ⟨N + 1, k, none⟩ u).cell? ⟨N, 1, none⟩ = some x1 ∧ (w2.setCell ⟨N + 1, k, none⟩ u).cell? ⟨N, 2, none⟩ = some x2 ∧ (w2.setCell ⟨N + 1, k, none⟩ u).cell? ⟨b, ml, none⟩ = some x3 ∧ (w2.setCell ⟨N + 1, k, none⟩ u).cell? ⟨b, mr, none⟩ = some x4 ∧ Hid (∃ v, (w2.setCell ⟨N + 1, k, none⟩ u).cell? ⟨N + 1, k, none⟩ = some v) ∧ (w2.setCell ⟨N + 1, k, none⟩ u).frozen? ⟨N + 1, k, none⟩ = false ∧ N + 1 < (w2.setCell ⟨N + 1, k, none⟩ u).heap.size ∧ b < (w2.setCell ⟨N + 1, k, none⟩ u).heap.size ∧ Hid (b ≠ N + 1) := by
  obtain ⟨h0, h1, h2, h3, h4, h5, h6, h7, h8, h9⟩ := h
  obtain ⟨v, hv⟩ := h5
  have c : ∀ (q o : Nat), q ≠ N + 1 → (w2.setCell ⟨N + 1, k, none⟩ u).cell? ⟨q, o, none⟩ = w2.cell? ⟨q, o, none⟩ := fun q o hq => World.cell?_of_block (a := ⟨q, o, none⟩) (Below.heap_setCell w2 ⟨N + 1, k, none⟩ u q hq)
  refine ⟨(c _ _ (by omega)).trans h0, (c _ _ (by omega)).trans h1, (c _ _ (by omega)).trans h2, (c _ _ h9).trans h3, (c _ _ h9).trans h4, ⟨u, World.cell?_setCell_same' _ _ _ (by rw [hv]; rfl)⟩, by rw [World.frozen?_setCell]; exact h6, by simpa [World.setCell] using h7, by simpa [World.setCell] using h8, h9⟩
theorem ss_out {N b ml mr k : Nat} {x0 x1 x2 x3 x4 : Value} {w2 w3 : World}
    (h : w2.cell? ⟨N, 0, none⟩ = some x0 ∧ w2.cell? ⟨N, 1, none⟩ = some x1 ∧ w2.cell? ⟨N, 2, none⟩ = some x2 ∧ w2.cell? ⟨b, ml, none⟩ = some x3 ∧ w2.cell? ⟨b, mr, none⟩ = some x4 ∧ Hid (∃ v, w2.cell? ⟨N + 1, k, none⟩ = some v) ∧ w2.frozen? ⟨N + 1, k, none⟩ = false ∧ N + 1 < w2.heap.size ∧ b < w2.heap.size ∧ Hid (b ≠ N + 1))
    (hw : Below w2.heap.size w2 w3) : (∃ v, w3.cell? ⟨N + 1, k, none⟩ = some v) ∧ w3.frozen? ⟨N + 1, k, none⟩ = false := by
  obtain ⟨h0, h1, h2, h3, h4, h5, h6, h7, h8, h9⟩ := h
  obtain ⟨v, hv⟩ := h5
  exact ⟨⟨v, (hw.cell (p := ⟨N + 1, k, none⟩) h7).trans hv⟩, (hw.frozen (p := ⟨N + 1, k, none⟩) h7).trans h6⟩
set_option maxRecDepth 100000 in
set_option maxHeartbeats 1000000 in
theorem soften_any (b a s : Nat) (f : Nat → Int) (w : World) (hA : Arr w .i64 b 64 f) (has : a + 7 * s < 64) (hs : 1 ≤ s) (hf : ∀ i, -17592186044416 ≤ f i ∧ f i ≤ 17592186044416) :
    Calls Tryz.prog 92 #[.agg #[.pointer (some ⟨b, 0, none⟩), .int .i64 a, .int .i64 s]] w fun e w' =>
      e = .returned (.tuple #[]) ∧ Arr w' .i64 b 64 (upTo f a s 8) ∧ w.grownBy w' (some b) := by
  have hblt := hA.lt (by omega)
  obtain ⟨g, hg⟩ : ∃ g : Nat → Int, g = sft (fun j => f (a + j * s)) := ⟨_, rfl⟩
  have HG := Lib.hid hg
  have HA := Lib.hid hA
  have HF := Lib.hid hf
  clear hg hA hf
  go_enter Tryz.func92, Tryz.ntmps92
  go_wp2
  go_loopw [7] (fun i wr => ∃ k : Nat, k ≤ 8 ∧ i = .int .i64 k ∧ Arr wr .i64 (w.heap.size + 1) 8 (fun j => if j < k then g j else 0) ∧
      Below (w.heap.size + 1) (w.alloc (.cells #[.pointer (some ⟨b, 0, none⟩), .int .i64 a, .int .i64 s] 129)) wr ∧ w.heap.size + 1 < wr.heap.size)
    (fun i _ => 8 - (intOf i).toNat)
  case atStart =>
    have h := Arr.new (w.alloc (.cells #[.pointer (some ⟨b, 0, none⟩), .int .i64 a, .int .i64 s] 129)) .i64 #[.int .i64 0, .int .i64 0, .int .i64 0, .int .i64 0, .int .i64 0, .int .i64 0, .int .i64 0, .int .i64 0] 165 8 (fun _ => 0)
      (fun i hi => by rcases (by omega : i = 0 ∨ i = 1 ∨ i = 2 ∨ i = 3 ∨ i = 4 ∨ i = 5 ∨ i = 6 ∨ i = 7) with rfl | rfl | rfl | rfl | rfl | rfl | rfl | rfl <;> rfl)
    rw [World.size_alloc] at h
    exact ⟨0, by omega, by go_num, h.start, (Below.refl _ _).alloc (by simp) _, by simp⟩
  case round =>
    obtain ⟨k, hk, rfl, hO, hB, hsz⟩ := hrel
    obtain ⟨q0, q1, q2⟩ := cell3 w (.pointer (some ⟨b, 0, none⟩)) (.int .i64 a) (.int .i64 s) 129
    have p0 := (hB.cell (p := ⟨w.heap.size, 0, none⟩) (by simp)).trans q0
    have p1 := (hB.cell (p := ⟨w.heap.size, 1, none⟩) (by simp)).trans q1
    have p2 := (hB.cell (p := ⟨w.heap.size, 2, none⟩) (by simp)).trans q2
    have hAr := (HA.out.alloc (.cells #[.pointer (some ⟨b, 0, none⟩), .int .i64 a, .int .i64 s] 129)).below hB (by omega)
    clear q0 q1 q2
    by_cases hk8 : k < 8
    · have hks : k * s ≤ 7 * s := Nat.mul_le_mul_right s (by omega)
      obtain ⟨m, hm⟩ : ∃ m, m = a + k * s := ⟨_, rfl⟩
      have hm64 : m < 64 := by omega
      have ck := (hAr m hm64).1
      have ok := hO k hk8
      have bk := HF.out m
      have im : (a : Int) + (k : Int) * (s : Int) = (m : Int) := by rw [hm]; simp
      have hsz2 : w.heap.size < wr.heap.size := by omega
      have hblt2 : b < wr.heap.size := by omega
      have gk : Hid (g k = sft (fun j => f (a + j * s)) k) := by show _ = _; rw [HG.out]
      have HM := Lib.hid hm
      have IM := Lib.hid im
      have HAr := Lib.hid hAr
      have HO := Lib.hid hO
      have HB := Lib.hid hB
      clear hAr hO hB hm im
      rcases (by omega : k = 0 ∨ k = 7 ∨ (0 < k ∧ k < 7)) with h0 | h7 | hmid
      · subst h0
        have gv : Hid (4 * f m = g 0) := by show _ = _; rw [gk.out, HM.out]; simp [sft]
        go_wp2_with (go_at_call 134; refine (at_any b a s _ m _ (by omega) (by omega) (by omega) (by omega) (by omega) (by omega) IM.out (by omega)).mono ?_; rintro e w1 ⟨rfl, hw⟩; obtain ⟨hc, hfz⟩ := bcell hw)
        go_roundw
        case rel => exact ⟨1, by omega, by go_num, (HO.out.below hw (by omega)).fill _ gv.out, (HB.out.trans (hw.mono (by omega))).setCell (by simp) _, by have := hw.size; simp; omega⟩
        case measure => simp [intOf]
      · subst h7
        have gv : Hid (4 * f m = g 7) := by show _ = _; rw [gk.out, HM.out]; simp [sft]
        go_wp2_with (go_at_call 134; refine (at_any b a s _ m _ (by omega) (by omega) (by omega) (by omega) (by omega) (by omega) IM.out (by omega)).mono ?_; rintro e w1 ⟨rfl, hw⟩; obtain ⟨hc, hfz⟩ := bcell hw)
        go_roundw
        case rel => exact ⟨8, by omega, by go_num, (HO.out.below hw (by omega)).fill _ gv.out, (HB.out.trans (hw.mono (by omega))).setCell (by simp) _, by have := hw.size; simp; omega⟩
        case measure => simp [intOf]
      · have k0 : ((k : Int) == 0) = false := by simp; omega
        have k7 : ((k : Int) == 7) = false := by simp; omega
        have hAr := HAr.out
        obtain ⟨ml, hml⟩ : ∃ ml, ml = a + (k - 1) * s := ⟨_, rfl⟩
        obtain ⟨mr, hmr⟩ : ∃ mr, mr = a + (k + 1) * s := ⟨_, rfl⟩
        have hks1 : (k - 1) * s ≤ 7 * s := Nat.mul_le_mul_right s (by omega)
        have hks2 : (k + 1) * s ≤ 7 * s := Nat.mul_le_mul_right s (by omega)
        have hml64 : ml < 64 := by omega
        have hmr64 : mr < 64 := by omega
        have cl := (hAr ml hml64).1
        have cr := (hAr mr hmr64).1
        have bl := HF.out ml
        have br := HF.out mr
        have iml : (a : Int) + ((k : Int) - 1) * (s : Int) = (ml : Int) := by rw [hml]; simp; rw [Int.ofNat_sub (by omega)]; rfl
        have imr : (a : Int) + ((k : Int) + 1) * (s : Int) = (mr : Int) := by rw [hmr]; simp
        have gv : Hid (f ml + 2 * f m + f mr = g k) := by
          show _ = _
          rw [gk.out, HM.out, hml, hmr]
          simp only [sft]
          rw [if_neg (by omega)]
        have IML := Lib.hid iml
        have IMR := Lib.hid imr
        clear hAr hml hmr iml imr
        go_wp2_with (go_at_call 134; refine (at_any b a s _ m _ (by omega) (by omega) (by omega) (by omega) (by omega) (by omega) IM.out (by omega)).mono ?_; rintro e w1 ⟨rfl, hw⟩; obtain ⟨hc, hfz⟩ := bcell hw)
        have e0 := (hw.cell (p := ⟨w.heap.size, 0, none⟩) hsz2).trans p0
        have e1 := (hw.cell (p := ⟨w.heap.size, 1, none⟩) hsz2).trans p1
        have e2 := (hw.cell (p := ⟨w.heap.size, 2, none⟩) hsz2).trans p2
        have e3 := (hw.cell (p := ⟨b, ml, none⟩) hblt2).trans cl
        have e4 := (hw.cell (p := ⟨b, mr, none⟩) hblt2).trans cr
        have e5 := (hw.cell (p := ⟨w.heap.size + 1, k, none⟩) hsz).trans ok.1
        have e6 := (hw.frozen (p := ⟨w.heap.size + 1, k, none⟩) hsz).trans ok.2
        have hsz3 : w.heap.size + 1 < w1.heap.size := Nat.lt_of_lt_of_le hsz hw.size
        have hblt3 : b < w1.heap.size := Nat.lt_of_lt_of_le hblt2 hw.size
        have kb : (0 : Int) ≤ (k : Int) ∧ (k : Int) < 8 := by omega
        clear hc hfz p0 p1 p2 ck cl cr ok
        have HC := Lib.hid (Below.refl w1.heap.size w1).drew
        have hne : Hid (b ≠ w.heap.size + 1) := by show b ≠ _; omega
        have na : (0 : Int) ≤ (a : Int) := by omega
        have ha : (a : Int) ≤ 1000 := by omega
        have ns : (0 : Int) ≤ (s : Int) := by omega
        have hs0 : (s : Int) ≤ 1000 := by omega
        have kl0 : (0 : Int) ≤ (k : Int) - 1 := by omega
        have kl1 : (k : Int) - 1 ≤ 1000 := by omega
        have kr0 : (0 : Int) ≤ (k : Int) + 1 := by omega
        have kr1 : (k : Int) + 1 ≤ 1000 := by omega
        have x1 : IntKind.i64.wrap ((k : Int) - 1) = (k : Int) - 1 := IntWalk.i64_in _ (by omega)
        have x2 : IntKind.i64.wrap ((k : Int) + 1) = (k : Int) + 1 := IntWalk.i64_in _ (by omega)
        have x3 : IntKind.i64.wrap (2 * f m) = 2 * f m := IntWalk.i64_in _ (by omega)
        have x4 : IntKind.i64.wrap (f ml + 2 * f m) = f ml + 2 * f m := IntWalk.i64_in _ (by omega)
        have x5 : IntKind.i64.wrap (f ml + 2 * f m + f mr) = f ml + 2 * f m + f mr := IntWalk.i64_in _ (by omega)
        go_region_held3 (fun w' => w'.cell? ⟨w.heap.size, 0, none⟩ = some (.pointer (some ⟨b, 0, none⟩)) ∧ w'.cell? ⟨w.heap.size, 1, none⟩ = some (.int .i64 a) ∧ w'.cell? ⟨w.heap.size, 2, none⟩ = some (.int .i64 s) ∧ w'.cell? ⟨b, ml, none⟩ = some (.int .i64 (f ml)) ∧ w'.cell? ⟨b, mr, none⟩ = some (.int .i64 (f mr)) ∧ Hid (∃ v, w'.cell? ⟨w.heap.size + 1, k, none⟩ = some v) ∧ w'.frozen? ⟨w.heap.size + 1, k, none⟩ = false ∧ w.heap.size + 1 < w'.heap.size ∧ b < w'.heap.size ∧ Hid (b ≠ w.heap.size + 1))
          (first
            | exact ⟨e0, e1, e2, e3, e4, Lib.hid ⟨_, e5⟩, e6, hsz3, hblt3, hne⟩
            | exact ss_step (by assumption) hw2
            | exact ss_store _ (by assumption))
          (first | (go_at_call 134; ((with_reducible refine (at_any b a s _ ml _ na ha ns hs0 kl0 kl1 IML.out hml64).mono ?_); rintro e w2 ⟨rfl, hw2⟩; obtain ⟨⟨v5, c5⟩, f5⟩ := ss_out (by assumption) hw2; have HC := Lib.hid (HC.out.trans (hw2.mono HC.out.size)))) | (go_at_call 134; ((with_reducible refine (at_any b a s _ mr _ na ha ns hs0 kr0 kr1 IMR.out hmr64).mono ?_); rintro e w2 ⟨rfl, hw2⟩; obtain ⟨⟨v5, c5⟩, f5⟩ := ss_out (by assumption) hw2; have HC := Lib.hid (HC.out.trans (hw2.mono HC.out.size)))))
        go_wp2
        go_roundw
        case rel => exact ⟨k + 1, by omega, by go_num, ((HO.out.below hw hsz).below HC.out hsz3).fill _ gv.out, ((HB.out.trans (hw.mono (by omega))).trans (HC.out.mono (by omega))).setCell (by simp) _, by have := HC.out.size; simp; omega⟩
        case measure => simp [intOf]; omega
    · have hO' : Arr wr .i64 (w.heap.size + 1) 8 g := by
        obtain rfl : k = 8 := by omega
        exact hO.filled
      have hk8' : 8 ≤ k := by omega
      clear hO hk hk8
      have g0 := (hO' 0 (by omega)).1
      have g1 := (hO' 1 (by omega)).1
      have g2 := (hO' 2 (by omega)).1
      have g3 := (hO' 3 (by omega)).1
      have g4 := (hO' 4 (by omega)).1
      have g5 := (hO' 5 (by omega)).1
      have g6 := (hO' 6 (by omega)).1
      have g7 := (hO' 7 (by omega)).1
      have i8 : ∀ (j : Nat), j < 8 → ∀ w : World, _ := fun j hj w => idx8 g j hj w
      have I8 := Lib.hid i8
      have HAr := Lib.hid hAr
      have HB := Lib.hid hB
      clear hAr hB hO' i8
      go_wp2
      obtain ⟨wo, rfl⟩ : ∃ wo : World, wo = wr := ⟨_, rfl⟩
      go_loopw [44] (fun i wx => ∃ j : Nat, j ≤ 8 ∧ i = .int .i64 j ∧ Arr wx .i64 b 64 (upTo f a s j) ∧ wo.grownBy wx (some b))
        (fun i _ => 8 - (intOf i).toNat)
      case atStart => exact ⟨0, by omega, by go_num, HAr.out.congr fun i _ => (upTo_zero f a s i).symm, World.grownBy.refl _ _⟩
      case round =>
        obtain ⟨j, hj, rfl, hX, hG⟩ := hrel
        have hszx : w.heap.size + 1 < wr.heap.size := Nat.lt_of_lt_of_le hsz hG.size
        have hbx : b < wr.heap.size := hX.lt (by omega)
        by_cases hj8 : j < 8
        · have hjs : j * s ≤ 7 * s := Nat.mul_le_mul_right s (by omega)
          obtain ⟨m, hm⟩ : ∃ m, m = a + j * s := ⟨_, rfl⟩
          have hm64 : m < 64 := by omega
          have im : (a : Int) + (j : Int) * (s : Int) = (m : Int) := by rw [hm]; simp
          have e0 := grown_cell hG (by simp; omega) p0
          have e1 := grown_cell hG (by simp; omega) p1
          have e2 := grown_cell hG (by simp; omega) p2
          have em := hX m hm64
          have i8 := I8.out j hj8
          have hN : w.heap.size < wr.heap.size := by omega
          have na : (0 : Int) ≤ (a : Int) := by omega
          have ha : (a : Int) ≤ 1000 := by omega
          have ns : (0 : Int) ≤ (s : Int) := by omega
          have hs0 : (s : Int) ≤ 1000 := by omega
          have nj : (0 : Int) ≤ (j : Int) := by omega
          have hj0 : (j : Int) ≤ 1000 := by omega
          have HM := Lib.hid hm
          have IM := Lib.hid im
          have HX := Lib.hid hX
          have HGR := Lib.hid hG
          clear hX hG hm im p0 p1 p2
          go_wp2_with (go_at_call 134; ((with_reducible refine (at_any b a s _ m _ na ha ns hs0 nj hj0 IM.out hm64).mono ?_); rintro e w2 ⟨rfl, hw2⟩); obtain ⟨hc, hfz⟩ := bcell hw2)
          go_roundw
          case rel => exact ⟨j + 1, by omega, by go_num, ((HX.out.below hw2 hbx).set m (g j)).congr fun i _ => by rw [upTo_succ f a s j i hs, ← HM.out, HG.out], grown_set (grown_trans HGR.out (grown_of_below hw2 _)) _ _⟩
          case measure => simp [intOf]; omega
        · obtain rfl : j = 8 := by omega
          go_wp2
          go_end0
          exact ⟨rfl, hX, grown_trans (grown_of_below (((Below.refl w.heap.size w).alloc (Nat.le_refl _) _).trans (HB.out.mono (by omega))) _) hG⟩
end Lo
end Go.Proofs.YtbmglemjfodfhaaGreat
namespace Go.Proofs.YtbmglemjfodfhaaGreat
open Go.RowKit
namespace Lo
theorem soften_at (b : Nat) (A S : Int) (a s : Nat) (hA' : A = a) (hS' : S = s) (f : Nat → Int) (w : World) (hA : Arr w .i64 b 64 f) (has : a + 7 * s < 64) (hs : 1 ≤ s) (hf : ∀ i, -17592186044416 ≤ f i ∧ f i ≤ 17592186044416) :
    Calls Tryz.prog 92 #[.agg #[.pointer (some ⟨b, 0, none⟩), .int .i64 A, .int .i64 S]] w fun e w' =>
      e = .returned (.tuple #[]) ∧ Arr w' .i64 b 64 (upTo f a s 8) ∧ w.grownBy w' (some b) := by
  subst hA' hS'; exact soften_any b a s f w hA has hs hf
theorem make64b (w : World) : (Instr.makeSlice 30 (.int .i64 64) (.int .i64 64)).run Tryz.prog w = .ok (.slice (some ⟨w.heap.size, 0, none⟩) 64 64) (w.alloc (.cells (rowOf .u8 64 (fun _ => 0)) 5)) := by kernel_rfl
theorem made (w : World) (k : IntKind) (t : TypeId) (n : Nat) (f : Nat → Int) : Arr (w.alloc (.cells (rowOf k n f) t)) k w.heap.size n f := Arr.new w k _ t n f fun i hi => rowOf_get k n f i hi
def by0 (f : Nat → Int) (i : Nat) : Int := if i < 64 then f i else 0
set_option maxRecDepth 100000 in
set_option maxHeartbeats 2000000 in
theorem filter_row (b o c : Nat) (f : Nat → Int) (w : World) (h : Ints w .u8 b o 64 f) (hf : ∀ i, 0 ≤ f i ∧ f i ≤ 255) :
    Calls Tryz.prog 50 #[.slice (some ⟨b, o, none⟩) 64 c] w fun e w' => ∃ g c', e = .returned (.tuple #[.slice (some ⟨g, 0, none⟩) 64 c', .int .i64 0]) ∧ w.heap.size ≤ g ∧ g < w'.heap.size ∧ 64 ≤ c' ∧ c' ≤ maxLen ∧ Arr w' .u8 g 64 (filt f) ∧ Below w.heap.size w w' := by
  have hblt := h.lt (by omega)
  have H := Lib.hid h
  have HF := Lib.hid hf
  have hmk := make64b
  clear h hf
  go_enter Tryz.func50, Tryz.ntmps50
  go_wp2
  go_loopw [17] (fun i wr => ∃ k : Nat, k ≤ 64 ∧ i = .int .i64 k ∧ Arr wr .i64 w.heap.size 64 (fun i => if i < k then f i else 0) ∧ Below w.heap.size w wr) (fun i _ => 64 - (intOf i).toNat)
  case atStart => exact ⟨0, by omega, rfl, (made w .i64 126 64 (fun _ => 0)).start, (Below.refl _ _).alloc (Nat.le_refl _) _⟩
  case round =>
    obtain ⟨k, hk, rfl, hA, hB⟩ := hrel
    by_cases hk64 : k < 64
    · have ck := (H.out.below hB hblt).at k hk64
      have cz := hA k hk64
      have kb : (0 : Int) ≤ (k : Int) ∧ (k : Int) < 64 := by omega
      have fk := HF.out k
      have HA := Lib.hid hA
      have HB := Lib.hid hB
      clear hA hB hmk
      go_wp2
      go_roundw
      case rel => exact ⟨k + 1, by omega, by go_num, HA.out.fill (f k) rfl, HB.out.setCell (Nat.le_refl _) _⟩
      case measure => simp [intOf]; omega
    · have hA' : Arr wr .i64 w.heap.size 64 (fun i => if i / 8 < 0 then rowsF f i else f i) := by
        obtain rfl : k = 64 := by omega
        exact hA.filled.congr fun i _ => by simp
      have hk' : 64 ≤ k := by omega
      clear hA hk hk64
      go_wp2
      obtain ⟨w0, rfl⟩ : ∃ w0 : World, w0 = wr := ⟨_, rfl⟩
      go_loopw [27] (fun i wr => ∃ y : Nat, y ≤ 8 ∧ i = .int .i64 y ∧ Arr wr .i64 w.heap.size 64 (fun i => if i / 8 < y then rowsF f i else f i) ∧ Below w.heap.size w wr) (fun i _ => 8 - (intOf i).toNat)
      case atStart => exact ⟨0, by omega, rfl, hA', hB⟩
      case round =>
        obtain ⟨y, hy, rfl, hA, hBy⟩ := hrel
        by_cases hy8 : y < 8
        · have HA := Lib.hid hA
          have HB := Lib.hid hBy
          have ys : Hid ((8 : Int) * (y : Int) = ((8 * y : Nat) : Int)) := by show _ = _; simp
          clear hA hBy hB hA' hmk
          have bd : Hid (∀ i, -17592186044416 ≤ (if i / 8 < y then rowsF f i else f i) ∧ (if i / 8 < y then rowsF f i else f i) ≤ 17592186044416) := by
            intro i
            have := rowsF_bd f HF.out i
            have := HF.out i
            split <;> omega
          go_wp2_with (go_at_call 92; ((with_reducible refine (soften_at w.heap.size _ 1 (8 * y) 1 ys.out rfl _ _ HA.out (by omega) (by decide) bd.out).mono ?_); rintro e w1 ⟨rfl, h1, g1⟩))
          go_roundw
          case rel => exact ⟨y + 1, by omega, by go_num, h1.congr fun i _ => row_step f y i, HB.out.grown g1 HB.out.size (fun j hj => by cases hj; exact Nat.le_refl _)⟩
          case measure => simp [intOf]; omega
        · have hA' : Arr wr .i64 w.heap.size 64 (fun i => if i % 8 < 0 then colsF (rowsF f) i else rowsF f i) := by
            obtain rfl : y = 8 := by omega
            exact hA.congr fun i hi => by rw [if_pos (by omega), if_neg (by omega)]
          have hy' : 8 ≤ y := by omega
          clear hA hy hy8 hB
          go_wp2
          obtain ⟨w2, rfl⟩ : ∃ w2 : World, w2 = wr := ⟨_, rfl⟩
          go_loopw [35] (fun i wr => ∃ x : Nat, x ≤ 8 ∧ i = .int .i64 x ∧ Arr wr .i64 w.heap.size 64 (fun i => if i % 8 < x then colsF (rowsF f) i else rowsF f i) ∧ Below w.heap.size w wr) (fun i _ => 8 - (intOf i).toNat)
          case atStart => exact ⟨0, by omega, rfl, hA', hBy⟩
          case round =>
            obtain ⟨x, hx, rfl, hA, hBx⟩ := hrel
            by_cases hx8 : x < 8
            · have HA := Lib.hid hA
              have HB := Lib.hid hBx
              have bd : Hid (∀ i, -17592186044416 ≤ (if i % 8 < x then colsF (rowsF f) i else rowsF f i) ∧ (if i % 8 < x then colsF (rowsF f) i else rowsF f i) ≤ 17592186044416) := by
                intro i
                have := rowsF_bd f HF.out i
                have := colsF_bd f HF.out i
                split <;> omega
              clear hA hBx hBy hA' hmk
              go_wp2_with (go_at_call 92; ((with_reducible refine (soften_at w.heap.size _ 8 x 8 rfl rfl _ _ HA.out (by omega) (by decide) bd.out).mono ?_); rintro e w1 ⟨rfl, h1, g1⟩))
              go_roundw
              case rel => exact ⟨x + 1, by omega, by go_num, h1.congr fun i hi => col_step (rowsF f) x i hx8 hi, HB.out.grown g1 HB.out.size (fun j hj => by cases hj; exact Nat.le_refl _)⟩
              case measure => simp [intOf]; omega
            · have hA' : Arr wr .i64 w.heap.size 64 (colsF (rowsF f)) := by
                obtain rfl : x = 8 := by omega
                exact hA.congr fun i hi => by rw [if_pos (by omega)]
              have hx' : 8 ≤ x := by omega
              have hltx := hA'.lt (by omega)
              have HA := Lib.hid hA'
              have HB := Lib.hid hBx
              clear hA hx hx8 hBy hA' hBx
              have hmk := make64b
              have HA2 := Lib.hid (HA.out.alloc (.cells (rowOf .u8 64 (fun _ => 0)) 5))
              have HB2 := Lib.hid (HB.out.alloc HB.out.size (.cells (rowOf .u8 64 (fun _ => 0)) 5))
              have M0 := Lib.hid (made wr .u8 5 64 (fun _ => 0))
              go_wp2_with (refine wpList_load_arr rfl 126 (.tmp 4) rfl (rfl) HA2.out Tryz.underlying126 (by kernel_rfl) ?_)
              clear hmk
              have hsz3 := HB.out.size
              obtain ⟨w3, rfl⟩ : ∃ w3 : World, w3 = wr := ⟨_, rfl⟩
              obtain ⟨i0, hi, hz0, hz1, hz2⟩ := info_parts info_int
              have CB := Lib.hid (colsF_bd f HF.out)
              have IX : Hid (∀ k : Nat, k < 64 → ∀ W : World, (Instr.index 126 (.agg (rowOf .i64 64 (colsF (rowsF f)))) (.int .i64 (k : Int))).run Tryz.prog W = .ok (.int .i64 (colsF (rowsF f) k)) W) :=
                Lib.hid (fun k hk W => run_index_row W Tryz.underlying126 Tryz.underlying3 hi hz1 .i64 k hk)
              clear hi hz0 hz1 hz2
              go_loopw [44] (fun i wr => ∃ k : Nat, k ≤ 64 ∧ i = .int .i64 k ∧ Arr wr .u8 w3.heap.size 64 (fun i => if i < k then filt f i else 0) ∧ Below w.heap.size w wr) (fun i _ => 64 - (intOf i).toNat)
              case atStart => exact ⟨0, by omega, rfl, M0.out.start, HB2.out⟩
              case round =>
                obtain ⟨k, hk, rfl, hA, hB⟩ := hrel
                by_cases hk64 : k < 64
                · have cz := hA k hk64
                  have ix := IX.out k hk64
                  have cb := CB.out k
                  have kb : (0 : Int) ≤ (k : Int) ∧ (k : Int) < 64 := by omega
                  have HA := Lib.hid hA
                  have HB := Lib.hid hB
                  have sz3 : w.heap.size ≤ w3.heap.size := hsz3
                  clear hA hB
                  go_wp2
                  go_roundw
                  case rel => exact ⟨k + 1, by omega, by go_num, HA.out.fill _ rfl, HB.out.setCell sz3 _⟩
                  case measure => simp [intOf]; omega
                · have hA' : Arr wr .u8 w3.heap.size 64 (filt f) := by
                    obtain rfl : k = 64 := by omega
                    exact hA.filled
                  have hk' : 64 ≤ k := by omega
                  have HA := Lib.hid hA'
                  have HB := Lib.hid hB
                  have sz3 : w.heap.size ≤ w3.heap.size := hsz3
                  clear hA hB hk hk64 hA'
                  go_wp2
                  go_ret2
                  exact ⟨w3.heap.size, 64, rfl, sz3, HA.out.lt (by decide), by decide, by decide, HA.out, HB.out⟩
end Lo
end Go.Proofs.YtbmglemjfodfhaaGreat
namespace Go.Proofs.YtbmglemjfodfhaaGreat
open Go.RowKit
namespace Lo
def inB (x : Int) : Bool := decide (-1099511627776 ≤ x ∧ x ≤ 1099511627776)
theorem inB_yes {x : Int} (h : inB x = true) : -1099511627776 ≤ x ∧ x ≤ 1099511627776 := by unfold inB at h; simpa using h
theorem inB_no {x : Int} (h : inB x = false) : x < -1099511627776 ∨ 1099511627776 < x := by unfold inB at h; simp only [decide_eq_false_iff_not] at h; omega
def okS (f : Nat → Int) (k : Nat) : Bool := (List.range k).all fun i => inB (f i)
theorem okS_succ (f : Nat → Int) (k : Nat) : okS f (k + 1) = (okS f k && inB (f k)) := by unfold okS; rw [List.range_succ]; simp
theorem okS_at {f : Nat → Int} {k : Nat} (h : okS f k = true) (i : Nat) (hi : i < k) : inB (f i) = true := by
  unfold okS at h; rw [List.all_eq_true] at h; exact h i (List.mem_range.2 hi)
theorem okS_not {f : Nat → Int} {k i : Nat} (hi : i < k) (h : inB (f i) = false) : okS f k = false := by
  cases e : okS f k
  · rfl
  · rw [okS_at e i hi] at h; cases h
def sE (n : Nat) (f : Nat → Int) : Int := if n = 8 then (if okS f 8 then 0 else 2) else 2
def sN (n : Nat) (f : Nat → Int) : Nat := if n = 8 then (if okS f 8 then 8 else 0) else 0
def Softens (w : World) (n : Nat) (f : Nat → Int) (e : Ending) (w' : World) : Prop :=
  ∃ v, e = .returned (.tuple #[v, .int .i64 (sE n f)]) ∧ Res .i64 w.heap.size w' v (sN n f) (sft f) ∧ Below w.heap.size w w'
def fE (n : Nat) : Int := if n = 64 then 0 else 2
def fN (n : Nat) : Nat := if n = 64 then 64 else 0
def Filters (w : World) (n : Nat) (f : Nat → Int) (e : Ending) (w' : World) : Prop :=
  ∃ v, e = .returned (.tuple #[v, .int .i64 (fE n)]) ∧ Res .u8 w.heap.size w' v (fN n) (filt f) ∧ Below w.heap.size w w'
theorem filter_long (a : Option Addr) (n c : Nat) (f : Nat → Int) (w : World) (h : n ≠ 64) :
    Calls Tryz.prog 50 #[.slice a n c] w (Filters w n f) := by
  have e1 : fE n = 2 := by unfold fE; rw [if_neg h]
  have e2 : fN n = 0 := by unfold fN; rw [if_neg h]
  have k : ((n : Int) == 64) = false := by simp; omega
  have E1 := Lib.hid e1
  have E2 := Lib.hid e2
  clear e1 e2
  go_enter Tryz.func50, Tryz.ntmps50
  go_wp2
  go_ret2
  exact ⟨.slice none 0 0, by rw [E1.out]; rfl, by rw [E2.out]; exact .inl ⟨rfl, rfl⟩, Below.refl _ _⟩
theorem Filter_any (v : Value) (n : Nat) (f : Nat → Int) (w : World) (hs : Sl .u8 w v n f) (hf : ∀ i, 0 ≤ f i ∧ f i ≤ 255) :
    Calls Tryz.prog 50 #[v] w (Filters w n f) := by
  obtain ⟨a, c, rfl, h1, h2, h3⟩ := hs
  by_cases h : n = 64
  · subst h
    rcases h3 with ⟨h3, _⟩ | ⟨b, o, rfl, _, h4⟩
    · omega
    · exact (filter_row b o c f w h4 hf).mono fun e w' ⟨g, c', he, r1, r2, r3, r4, r5, r6⟩ => ⟨_, he, .inr ⟨g, c', rfl, r1, r2, r3, r4, r5⟩, r6⟩
  · exact filter_long a n c f w h
end Lo
end Go.Proofs.YtbmglemjfodfhaaGreat
