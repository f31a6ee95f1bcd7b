/- bytes.Repeat of one byte; grey pictures. -/
import Derived.Test.YtkeempljogjceaaCpy
import Derived.Test.YtkeempljogjceaaBytes
import Derived.Test.YtkeempljogjceaaFr3
import Derived.Test.YtkeempljogjceaaPa6
import Derived.Test.YtkeempljogjceaaRg1
import Derived.Lib.MakeNoZero
import Derived.Deep.RegionLaw
namespace Go.Proofs.Ytkeempljogjceaa
open Go.RowKit
namespace Pa
open Fr

/-- n cells that may be written, the first p of them this number. -/
def Half (W : World) (g n p : Nat) (x : Int) : Prop := (∀ j, j < n → (W.cell? ⟨g, j, none⟩).isSome = true ∧ W.frozen? ⟨g, j, none⟩ = false) ∧ ∀ i, i < p → W.cell? ⟨g, i, none⟩ = some (.int .u8 x)
theorem Half.more {W : World} {g n p : Nat} {x : Int} (h : Half W g n p x) (m : Nat) (hm : p + m ≤ n) : Half (W.setCells g p ((List.range m).map fun _ => .int .u8 x)) g n (p + m) x := by
  have hl : ((List.range m).map fun _ => Value.int .u8 x).length = m := by simp
  have hin : ∀ i, p ≤ i → i < p + m → (W.setCells g p ((List.range m).map fun _ => .int .u8 x)).cell? ⟨g, i, none⟩ = some (.int .u8 x) := fun i h1 h2 => by
    have h3 := World.cell?_setCells_in g ((List.range m).map fun _ => .int .u8 x) p W (fun j hj => by rw [hl] at hj; exact (h.1 (p + j) (by omega)).1) (i - p) (by rw [hl]; omega)
    rw [show p + (i - p) = i by omega] at h3
    rw [h3]
    simp
  have hout : ∀ i, i < p ∨ p + m ≤ i → (W.setCells g p ((List.range m).map fun _ => .int .u8 x)).cell? ⟨g, i, none⟩ = W.cell? ⟨g, i, none⟩ := fun i hi => World.cell?_setCells_out g _ p W _ (fun _ _ => by rw [hl]; simp only []; omega)
  refine ⟨fun j hj => ⟨?_, by rw [World.frozen?_setCells]; exact (h.1 j hj).2⟩, fun i hi => ?_⟩
  · by_cases hb : p ≤ j ∧ j < p + m
    · rw [hin j hb.1 hb.2]; rfl
    · rw [hout j (by omega)]; exact (h.1 j hj).1
  · by_cases hb : p ≤ i
    · exact hin i hb hi
    · rw [hout i (by omega)]; exact h.2 i (by omega)
theorem Half.arr {W : World} {g n : Nat} {x : Int} (h : Half W g n n x) : Arr W .u8 g n (fun _ => x) := fun i hi => ⟨h.2 i hi, (h.1 i hi).2⟩
theorem slice_from (g N o : Nat) (h : o < N) (w : World) : (Instr.slice 24 (.slice (some ⟨g, 0, none⟩) N N) (some (.int .i64 (o : Int))) none none).run Try.prog w = .ok (.slice (some ⟨g, o, none⟩) (N - o) (N - o)) w := by
  have ht : Try.prog.underlying 24 = some (.slice (Try.prog.elem 24)) := by kernel_rfl
  obtain ⟨i0, hi, hz0, hz1, hz2⟩ := info_parts info_byte
  have he : Try.prog.elem 24 = 5 := by kernel_rfl
  rw [run_slice_l w 24 _ N N ht .i64 o (by omega) (by omega), he]
  have hs : (sizeOf 5).run Try.prog w = .ok 1 w := by simp [sizeOf, typeInfo, hi, hz1]
  rw [hs]
  have h0 : ¬ N = o := by omega
  simp only [Result.andThen, sliced, Int.toNat_natCast, Nat.mul_one, Option.map_some]
  simp only [Addr.add_mid]
  simp
  intro h
  exact absurd h h0
theorem size_byte2 : (Try.prog.info? 5).map (·.size) = some 1 := by kernel_rfl
theorem new_half (w : World) (cs : Array Value) (n : Nat) (hn : n ≤ cs.size) (x : Int) : Half ((w.alloc (.cells cs 5)).drewN 2) w.heap.size n 0 x := by
  have hb : ((w.alloc (.cells cs 5)).drewN 2).heap[w.heap.size]? = some (.cells cs 5 (0, 0)) := heap_alloc_new w _
  refine ⟨fun j hj => ⟨?_, frozen_of_row hb j⟩, fun i hi => by omega⟩
  rw [cell_of_row _ _ j cs 5 (0, 0) hb]
  simp [show j < cs.size by omega]
theorem Mul_0 (w : World) : Calls Try.prog 65 #[.int .u64 1, .int .u64 38016] w fun e w' => e = .returned (.tuple #[.int .u64 0, .int .u64 38016]) ∧ w = w' := by
  go_enter Try.func65, Try.ntmps65
  go_wp2_with (first | go_in)
  go_ret2
  exact ⟨rfl, rfl⟩
theorem Mul_1 (w : World) : Calls Try.prog 65 #[.int .u64 1, .int .u64 152064] w fun e w' => e = .returned (.tuple #[.int .u64 0, .int .u64 152064]) ∧ w = w' := by
  go_enter Try.func65, Try.ntmps65
  go_wp2_with (first | go_in)
  go_ret2
  exact ⟨rfl, rfl⟩
set_option maxRecDepth 100000 in
set_option maxHeartbeats 1000000 in
theorem Repeat_any (Z b : Nat) (x : Int) (w : World) (hz : 8192 < Z ∧ Z ≤ 200000) (hM : ∀ w, Calls Try.prog 65 #[.int .u64 1, .int .u64 (Z : Int)] w fun e w' => e = .returned (.tuple #[.int .u64 0, .int .u64 (Z : Int)]) ∧ w = w') (hc : w.cell? ⟨b, 0, none⟩ = some (.int .u8 x)) : Calls Try.prog 53 #[.slice (some ⟨b, 0, none⟩) 1 1, .int .i64 (Z : Int)] w fun e w' => ∃ g, e = .returned (.slice (some ⟨g, 0, none⟩) Z Z) ∧ w.heap.size ≤ g ∧ g < w'.heap.size ∧ Arr w' .u8 g Z (fun _ => x) ∧ Below w.heap.size w w' := by
  have hbl := World.block_lt_of_cell? w _ hc
  have hbl : b < w.heap.size := hbl
  obtain ⟨cs, hrunM, hle, hmax⟩ := Lib.run_makeNoZero (P := Try.prog) w #[3] 24 5 Try.underlying24 Z (by omega)
  have hcall : (callFunc 66 #[.int .i64 (Z : Int)]).run Try.prog w = .ok (.value (.slice (some ⟨w.heap.size, 0, none⟩) Z cs.size)) ((w.alloc (.cells cs 5)).drewN 2) := by
    have hrunM : (Extern.BytealgMakeNoZero.makeNoZero #[3] #[24] #[.int .i64 (Z : Int)]).run Try.prog w = .ok (.slice (some ⟨w.heap.size, 0, none⟩) Z cs.size) (w.drew.drew.alloc (.cells cs 5)) := hrunM
    rw [run_callFunc_extern Try.func66 (by kernel_rfl) (by kernel_rfl) (by kernel_rfl) (e := Extern.BytealgMakeNoZero.makeNoZero #[3] #[24]) (by kernel_rfl), hrunM]
    rfl
  clear hrunM
  have H0 := Lib.hid (new_half w cs Z hle x)
  have hB0 : Below w.heap.size w ((w.alloc (.cells cs 5)).drewN 2) := below_drewN ((Below.refl _ _).alloc (Nat.le_refl _) _) 2
  have HB0 := Lib.hid hB0
  have cb : ((w.alloc (.cells cs 5)).drewN 2).cell? ⟨b, 0, none⟩ = some (.int .u8 x) := (hB0.cell (p := ⟨b, 0, none⟩) hbl).trans hc
  have SRC := Lib.hid (fun (j : Nat) (hj : j < 1) => show ((w.alloc (.cells cs 5)).drewN 2).cell? ((⟨b, 0, none⟩ : Addr).add j) = some (.int .u8 ((fun _ => x) j)) from by
    obtain rfl : j = 0 := by omega
    exact cb)
  have i1 : (Z : Int) ≤ (cs.size : Int) := by omega
  have HMN := Lib.hid (Nat.min_eq_left (show 1 ≤ Z by omega)).symm
  clear hc hB0 cb hmax
  have zb : 8192 < (Z : Int) ∧ (Z : Int) ≤ 200000 := by omega
  go_enter Try.func53, Try.ntmps53
  go_wp2_with (first
    | (go_at_call 65; refine (hM _).mono ?_; rintro e w1 ⟨rfl, rfl⟩)
    | (refine wpList_copy_there rfl (.tmp 58) (.tmp 59) 24 24 rfl 5 Try.underlying24 size_byte2 .u8 w.heap.size 0 1 Z 1 _ _ (fun _ => x) ⟨b, 0, none⟩ rfl rfl HMN.out (fun j hj => H0.out.1 (0 + j) (by omega)) SRC.out ?_; intro w1 hw1; have H1 := Lib.hid (H0.out.more 1 (by omega)); have HB1 := Lib.hid (HB0.out.grown (grown_setCells w.heap.size ((List.range 1).map fun _ => .int .u8 x) 0 _) HB0.out.size (fun q e => by have := Option.some.inj e; omega)); rw [← hw1] at H1 HB1; clear hw1 H0 HB0 SRC hcall))
  go_loopw [10, 11] (fun i _ wr => ∃ p : Nat, 1 ≤ p ∧ p ≤ Z ∧ i = .int .i64 p ∧ Half wr w.heap.size Z p x ∧ Below w.heap.size w wr) (fun i _ _ => Z - (intOf i).toNat)
  case atStart => exact ⟨1, by omega, by omega, rfl, H1.out, HB1.out⟩
  case round =>
    clear H1 HB1
    obtain ⟨p, hp1, hp, rfl, h1, h2⟩ := hrel
    by_cases hpn : p < Z
    · obtain ⟨ch, hch⟩ : ∃ ch : Nat, min p 8192 = ch := ⟨_, rfl⟩
      have mn : min (p : Int) 8192 = (ch : Int) := by omega
      obtain ⟨m, hm⟩ : ∃ m : Nat, Nat.min ch (Z - p) = m := ⟨_, rfl⟩
      have hm' : min ch (Z - p) = m := hm
      have mb : 1 ≤ m ∧ p + m ≤ Z ∧ m ≤ ch ∧ ch ≤ p ∧ ch ≤ Z := by omega
      have s1 := fun W => slice_from w.heap.size Z p hpn W
      have s2 := fun W => slice_to w.heap.size Z Z ch (by omega) W
      have TH := Lib.hid (fun (j : Nat) (hj : j < m) => show (wr.drew.cell? ⟨w.heap.size, p + j, none⟩).isSome = true ∧ wr.drew.frozen? ⟨w.heap.size, p + j, none⟩ = false from h1.1 (p + j) (by omega))
      have SRC := Lib.hid (fun (j : Nat) (hj : j < m) => show wr.drew.cell? ((⟨w.heap.size, 0, none⟩ : Addr).add j) = some (.int .u8 ((fun _ => x) j)) from by
        rw [Addr.add_lit, Nat.zero_add]
        exact h1.2 j (by omega))
      have H1 := Lib.hid h1
      have HB := Lib.hid h2
      have HM := Lib.hid hm
      have pb : (0 : Int) ≤ (p : Int) ∧ (p : Int) < (Z : Int) := by omega
      have e1 : IntKind.i64.wrap ((p : Int) + (m : Int)) = (p : Int) + (m : Int) := IntWalk.i64_in _ (by omega)
      clear h1 h2 hch hm hm'
      go_wp2_with fail
      go_region_law (refine step_copy_there rfl (.tmp 70) (.tmp 73) 24 24 rfl 5 Try.underlying24 size_byte2 .u8 w.heap.size p m (Z - p) ch (Z - p) Z (fun _ => x) ⟨w.heap.size, 0, none⟩ (by go_simp) (by go_simp) HM.out.symm TH.out SRC.out ?_; intro w2 hw2; have H2 := Lib.hid (show Half (wr.drew.setCells w.heap.size p ((List.range m).map fun _ => .int .u8 x)) w.heap.size Z (p + m) x from Half.more (W := wr.drew) ⟨H1.out.1, H1.out.2⟩ m mb.2.1); have HB2 := Lib.hid (HB.out.drew.grown (grown_setCells w.heap.size ((List.range m).map fun _ => .int .u8 x) p _) HB.out.size (fun q e => by have := Option.some.inj e; omega)); rw [← hw2] at H2 HB2; clear hw2)
      clear e1
      simp only [Act.put, List.getElem_toArray, List.getElem_cons_zero, List.getElem_cons_succ, List.setIfInBounds_toArray, List.set_cons_zero, List.set_cons_succ]
      go_wp2_with fail
      go_roundw
      case rel => exact ⟨p + m, by omega, by omega, by go_num, H2.out, HB2.out⟩
      case measure => simp [intOf]; omega
    · obtain rfl : p = Z := by omega
      have HA := Lib.hid h1.arr
      have HB := Lib.hid h2
      clear h1 h2
      go_wp2_with fail
      go_ret
      exact ⟨_, rfl, Nat.le_refl _, HA.out.lt (by omega), HA.out, HB.out⟩
end Pa
end Go.Proofs.Ytkeempljogjceaa
