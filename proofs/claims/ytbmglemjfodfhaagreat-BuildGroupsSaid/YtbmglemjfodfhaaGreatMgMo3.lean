/- motion: planes. -/
import Derived.Test.YtbmglemjfodfhaaGreatMgMo2
import Derived.Test.YtbmglemjfodfhaaGreatMgScb
import Derived.Deep.RegionWith
set_option linter.unusedVariables false
set_option linter.unusedSimpArgs false
namespace Go.Proofs.YtbmglemjfodfhaaGreat
open Go.RowKit
namespace Mo
open Fr
theorem sizeOf_byte (w : World) : (sizeOf 5).run Tryz.prog w = .ok 1 w := by
  obtain ⟨i0, hi, hz0, hz1, hz2⟩ := info_parts info_byte
  simp [sizeOf, typeInfo, hi, hz1]
theorem slice_lh (b o N c : Nat) (l h : Int) (h0 : 0 ≤ l) (hl : l < h) (hh : h ≤ (c : Int)) (w : World) : (Instr.slice 30 (.slice (some ⟨b, o, none⟩) N c) (some (.int .i64 l)) (some (.int .i64 h)) none).run Tryz.prog w = .ok (.slice (some ⟨b, o + l.toNat, none⟩) (h - l).toNat (c - l.toNat)) w := by
  have ht : Tryz.prog.underlying 30 = some (.slice (Tryz.prog.elem 30)) := by kernel_rfl
  have he : Tryz.prog.elem 30 = 5 := by kernel_rfl
  rw [run_slice_lh w 30 _ N c ht .i64 .i64 l h (by omega) (by omega) (by omega), he, sizeOf_byte]
  have h0 : ¬ c = l.toNat := by omega
  have ea : (⟨b, o, none⟩ : Addr).add l.toNat = ⟨b, o + l.toNat, none⟩ := Addr.add_lit ..
  have e1 : h.toNat - l.toNat = (h - l).toNat := by omega
  simp only [Result.andThen, sliced, Nat.mul_one, Option.map_some, ea, e1]
  simp
  intro h
  omega
theorem slice_h (b o N c : Nat) (h : Int) (h0 : 0 ≤ h) (hh : h ≤ (c : Int)) (w : World) : (Instr.slice 30 (.slice (some ⟨b, o, none⟩) N c) none (some (.int .i64 h)) none).run Tryz.prog w = .ok (.slice (some ⟨b, o, none⟩) h.toNat c) w := by
  have ht : Tryz.prog.underlying 30 = some (.slice (Tryz.prog.elem 30)) := by kernel_rfl
  have he : Tryz.prog.elem 30 = 5 := by kernel_rfl
  rw [run_slice_h w 30 _ N c ht .i64 h (by omega) (by omega), he, sizeOf_byte]
  have ea : (⟨b, o, none⟩ : Addr).add 0 = ⟨b, o, none⟩ := by simp [Addr.add]
  simp only [Result.andThen, sliced, Nat.sub_zero, Nat.zero_mul, Option.map_some, ea]
  simp
theorem slice_l (b o N c : Nat) (l : Int) (h0 : 0 ≤ l) (hl : l < (N : Int)) (hN : N ≤ c) (w : World) : (Instr.slice 30 (.slice (some ⟨b, o, none⟩) N c) (some (.int .i64 l)) none none).run Tryz.prog w = .ok (.slice (some ⟨b, o + l.toNat, none⟩) (N - l.toNat) (c - l.toNat)) w := by
  have ht : Tryz.prog.underlying 30 = some (.slice (Tryz.prog.elem 30)) := by kernel_rfl
  have he : Tryz.prog.elem 30 = 5 := by kernel_rfl
  rw [run_slice_l w 30 _ N c ht .i64 l (by omega) (by omega), he, sizeOf_byte]
  have h0 : ¬ c = l.toNat := by omega
  have ea : (⟨b, o, none⟩ : Addr).add l.toNat = ⟨b, o + l.toNat, none⟩ := Addr.add_lit ..
  simp only [Result.andThen, sliced, Nat.mul_one, Option.map_some, ea]
  simp
  intro h
  omega
set_option maxRecDepth 100000 in
theorem planes_0 (b o c : Nat) (hc : 38016 ≤ c) (w : World) : Calls Tryz.prog 88 #[.slice (some ⟨b, o, none⟩) 38016 c, .int .i64 176, .int .i64 144] w fun e w' =>
    e = .returned (.agg #[.slice (some ⟨b, o, none⟩) 25344 c, .int .i64 176, .int .i64 144, .slice (some ⟨b, o + 25344, none⟩) 6336 (c - 25344), .int .i64 88, .int .i64 72, .slice (some ⟨b, o + 31680, none⟩) 6336 (c - 31680), .int .i64 88, .int .i64 72]) ∧ Below w.heap.size w w' := by
  have s1 := fun w' => slice_h b o 38016 c 25344 (by omega) (by omega) w'
  have s2 := fun w' => slice_lh b o 38016 c 25344 31680 (by omega) (by omega) (by omega) w'
  have s3 := fun w' => slice_l b o 38016 c 31680 (by omega) (by omega) (by omega) w'
  simp only [show (25344 : Int).toNat = 25344 from rfl, show (31680 : Int).toNat = 31680 from rfl, show ((31680 : Int) - 25344).toNat = 6336 from rfl, show 38016 - 31680 = 6336 from rfl] at s1 s2 s3
  go_enter Tryz.func88, Tryz.ntmps88
  go_wp2_with fail
  go_region
  go_wp2
  refine bodyPost_ret (results_cell_row rfl _ _ w.heap.size _ _ _ _ rfl (heap_alloc_new w _) Tryz.underlying120 rfl (by kernel_rfl)) rfl ?_
  exact ⟨rfl, ((Below.refl w.heap.size w).alloc (Nat.le_refl _) _).drew⟩
set_option maxRecDepth 100000 in
theorem planes_1 (b o c : Nat) (hc : 152064 ≤ c) (w : World) : Calls Tryz.prog 88 #[.slice (some ⟨b, o, none⟩) 152064 c, .int .i64 352, .int .i64 288] w fun e w' =>
    e = .returned (.agg #[.slice (some ⟨b, o, none⟩) 101376 c, .int .i64 352, .int .i64 288, .slice (some ⟨b, o + 101376, none⟩) 25344 (c - 101376), .int .i64 176, .int .i64 144, .slice (some ⟨b, o + 126720, none⟩) 25344 (c - 126720), .int .i64 176, .int .i64 144]) ∧ Below w.heap.size w w' := by
  have s1 := fun w' => slice_h b o 152064 c 101376 (by omega) (by omega) w'
  have s2 := fun w' => slice_lh b o 152064 c 101376 126720 (by omega) (by omega) (by omega) w'
  have s3 := fun w' => slice_l b o 152064 c 126720 (by omega) (by omega) (by omega) w'
  simp only [show (101376 : Int).toNat = 101376 from rfl, show (126720 : Int).toNat = 126720 from rfl, show ((126720 : Int) - 101376).toNat = 25344 from rfl, show 152064 - 126720 = 25344 from rfl] at s1 s2 s3
  go_enter Tryz.func88, Tryz.ntmps88
  go_wp2_with fail
  go_region
  go_wp2
  refine bodyPost_ret (results_cell_row rfl _ _ w.heap.size _ _ _ _ rfl (heap_alloc_new w _) Tryz.underlying120 rfl (by kernel_rfl)) rfl ?_
  exact ⟨rfl, ((Below.refl w.heap.size w).alloc (Nat.le_refl _) _).drew⟩
end Mo
end Go.Proofs.YtbmglemjfodfhaaGreat
