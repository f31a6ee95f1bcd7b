/- KeptBytes: what was lent stands, and the room behind it. -/
import Derived.Test.YteigdcbaojmfgaaDoorBytes
import Derived.BigRegion
namespace Go.Proofs.YteigdcbaojmfgaaDoor
open Go.RowKit
set_option linter.unusedSimpArgs false
set_option linter.unusedVariables false

theorem slice_mid (g N c l h : Nat) (hl : l < h) (hh : h ≤ c) (w : World) : (Instr.slice 22 (.slice (some ⟨g, 0, none⟩) N c) (some (.int .i64 (l : Int))) (some (.int .i64 (h : Int))) none).run Tryd.prog w = .ok (.slice (some ⟨g, l, none⟩) (h - l) (c - l)) w := by
  have ht : Tryd.prog.underlying 22 = some (.slice (Tryd.prog.elem 22)) := by kernel_rfl
  obtain ⟨i0, hi, hz0, hz1, hz2⟩ := info_parts info_byte
  have he : Tryd.prog.elem 22 = 5 := by kernel_rfl
  rw [run_slice_lh w 22 _ N c ht .i64 .i64 l h (by omega) (by omega) (by omega), he]
  have hs : (sizeOf 5).run Tryd.prog w = .ok 1 w := by simp [sizeOf, typeInfo, hi, hz1]
  rw [hs]
  have h0 : ¬ c = l := by omega
  simp only [Result.andThen, sliced, Int.toNat_natCast, Nat.mul_one, Option.map_some]
  have ea : (⟨g, 0, none⟩ : Addr).add l = ⟨g, l, none⟩ := by
    simp [Addr.add]
    try (intro h; exact h.symm)
  simp only [ea]
  simp
  intro h
  exact absurd h h0

theorem four_str (n : Nat) (f : Nat → Int) : strOf 4 (fun i => lentF n f (n + i)) = strOf 4 (fun i => [(201 : Int), 202, 203, 204].getD i 0) := by
  refine strOf_congr fun i hi => ?_
  unfold lentF
  rw [if_neg (by omega)]
  rcases (by omega : i = 0 ∨ i = 1 ∨ i = 2 ∨ i = 3) with rfl | rfl | rfl | rfl <;> simp <;> omega
theorem four_new (w : World) : (convert 22 9 (.slice (some ⟨w.heap.size, 0, none⟩) 4 4)).run Tryd.prog (w.alloc (.cells #[.int .u8 201, .int .u8 202, .int .u8 203, .int .u8 204] 5)).drew = .ok (.string (strOf 4 (fun i => [(201 : Int), 202, 203, 204].getD i 0))) (w.alloc (.cells #[.int .u8 201, .int .u8 202, .int .u8 203, .int .u8 204] 5)).drew := by
  refine run_str Tryd.underlying22 Tryd.underlying5 Tryd.underlying9 ?_ 4
  refine ((Arr.new w .u8 _ _ 4 _ ?_).drew).ints
  intro i hi
  rcases (by omega : i = 0 ∨ i = 1 ∨ i = 2 ∨ i = 3) with rfl | rfl | rfl | rfl <;> rfl

set_option maxRecDepth 100000 in
theorem KeptBytes_row (g c n : Nat) (a2 : Option Addr) (c2 : Nat) (f : Nat → Int) (w : World) (hn : n ≤ 1000000) (hc : n + 4 ≤ c) (_hm : c ≤ maxLen) (hA : Arr w .u8 g (n + 4) (lentF n f)) (h2 : Sl .u8 w (.slice a2 n c2) n f) :
    Calls Tryd.prog 13 #[.slice (some ⟨g, 0, none⟩) n c, .slice a2 n c2] w fun e w' => e = .returned (.bool true) ∧ Below w.heap.size w w' := by
  have hI := hA.ints
  have hg := hI.lt (by omega)
  have E1 : ∀ w' : World, Hid (Below w.heap.size w w') → (convert 22 9 (.slice (some ⟨g, 0, none⟩) n c)).run Tryd.prog w' = .ok (.string (strOf n f)) w' := by
    intro w' hB
    refine run_str Tryd.underlying22 Tryd.underlying5 Tryd.underlying9 ?_ c
    intro i hi
    have h := hI.below hB.out hg i (by omega)
    rw [h]
    unfold lentF
    rw [if_pos hi]
  have E2 : ∀ w' : World, Hid (Below w.heap.size w w') → (convert 22 9 (.slice a2 n c2)).run Tryd.prog w' = .ok (.string (strOf n f)) w' := by
    intro w' hB
    exact run_str_sl Tryd.underlying22 Tryd.underlying5 Tryd.underlying9 (h2.below hB.out)
  have E3 : ∀ w' : World, Hid (Below w.heap.size w w') → (convert 22 9 (.slice (some ⟨g, n, none⟩) 4 (c - n))).run Tryd.prog w' = .ok (.string (strOf 4 (fun i => [(201 : Int), 202, 203, 204].getD i 0))) w' := by
    intro w' hB

    rw [← four_str n f]
    refine run_str Tryd.underlying22 Tryd.underlying5 Tryd.underlying9 ?_ _
    intro i hi
    have h := hI.below hB.out hg (n + i) (by omega)
    rw [Nat.zero_add] at h
    exact h
  have S1 := fun W => slice_to g n c c (Nat.le_refl _) W
  have S2 := fun W => slice_mid g c c n (n + 4) (by omega) (by omega) W
  have F4 := four_new w
  simp only [List.getD_eq_getElem?_getD] at F4
  have n1 : IntKind.i64.wrap ((n : Int) + 4) = (n : Int) + 4 := IntWalk.i64_in _ (by omega)
  have n2 : ((n + 4 : Nat) : Int) = (n : Int) + 4 := by omega
  rw [n2] at S2
  have d1 : decide ((n : Int) + 4 ≤ (c : Int)) = true := by simp; omega
  have B1 : Hid (Below w.heap.size w w.drew) := Lib.hid (Below.refl _ _).drew
  have B2 : Hid (Below w.heap.size w (w.alloc (.cells #[.int .u8 201, .int .u8 202, .int .u8 203, .int .u8 204] 5)).drew) := Lib.hid ((Below.refl w.heap.size w).alloc (Nat.le_refl _) _).drew
  clear hI hA h2 hg
  have c1 := E1 _ B1
  have c2 := E2 _ B1
  have c3 := E3 _ B1
  have c4 := E1 _ B2
  have c5 := E2 _ B2
  have c6 := E3 _ B2
  clear E1 E2 E3
  go_enter Tryd.func13, Tryd.ntmps13
  go_wp2_with fail
  go_region
  go_wp2
  go_ret
  exact ⟨rfl, B2.out⟩
end Go.Proofs.YteigdcbaojmfgaaDoor
