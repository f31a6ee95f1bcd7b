/- bytes.Repeat of one byte; grey pictures. | paint: Grey, and Lay and Copy of any arguments; the document's; awake. | A picture, all spots copied: plain. | What is fetched by 0, 0; blocks of a spot are apart; to lay twice: plain. -/
import Derived.Test.YtbmglemjfodfhaaGreatMgCpy
import Derived.Test.YtbmglemjfodfhaaGreatMgFet
import Derived.Test.YtbmglemjfodfhaaGreatMgFr3
import Derived.Test.YtbmglemjfodfhaaGreatMgIx
import Derived.Test.YtbmglemjfodfhaaGreatMgPa1
import Derived.Test.YtbmglemjfodfhaaGreatMgPa5
import Derived.Test.YtbmglemjfodfhaaGreatMgRg1
import Derived.Test.YtbmglemjfodfhaaGreatMgScb
import Derived.Deep.RegionLaw
import Derived.Lib.MakeNoZero
set_option linter.unusedVariables false
set_option linter.unusedSimpArgs false
namespace Go.Proofs.YtbmglemjfodfhaaGreat
open Go.RowKit
namespace Pa
open Fr
def Half (W : World) (g n p : Nat) (x : Int) : Prop := (∀ j, j < n → (W.cell? ⟨g, j, none⟩).isSome = true ∧ W.frozen? ⟨g, j, none⟩ = false) ∧ ∀ i, i < p → W.cell? ⟨g, i, none⟩ = some (.int .u8 x)
theorem Half.more {W : World} {g n p : Nat} {x : Int} (h : Half W g n p x) (m : Nat) (hm : p + m ≤ n) : Half (W.setCells g p ((List.range m).map fun _ => .int .u8 x)) g n (p + m) x := by
  have hl : ((List.range m).map fun _ => Value.int .u8 x).length = m := by simp
  have hin : ∀ i, p ≤ i → i < p + m → (W.setCells g p ((List.range m).map fun _ => .int .u8 x)).cell? ⟨g, i, none⟩ = some (.int .u8 x) := fun i h1 h2 => by
    have h3 := World.cell?_setCells_in g ((List.range m).map fun _ => .int .u8 x) p W (fun j hj => by rw [hl] at hj; exact (h.1 (p + j) (by omega)).1) (i - p) (by rw [hl]; omega)
    rw [show p + (i - p) = i by omega] at h3
    rw [h3]
    simp
  have hout : ∀ i, i < p ∨ p + m ≤ i → (W.setCells g p ((List.range m).map fun _ => .int .u8 x)).cell? ⟨g, i, none⟩ = W.cell? ⟨g, i, none⟩ := fun i hi => World.cell?_setCells_out g _ p W _ (fun _ _ => by rw [hl]; simp only []; omega)
  refine ⟨fun j hj => ⟨?_, by rw [World.frozen?_setCells]; exact (h.1 j hj).2⟩, fun i hi => ?_⟩
  · by_cases hb : p ≤ j ∧ j < p + m
    · rw [hin j hb.1 hb.2]; rfl
    · rw [hout j (by omega)]; exact (h.1 j hj).1
  · by_cases hb : p ≤ i
    · exact hin i hb hi
    · rw [hout i (by omega)]; exact h.2 i (by omega)
theorem Half.arr {W : World} {g n : Nat} {x : Int} (h : Half W g n n x) : Arr W .u8 g n (fun _ => x) := fun i hi => ⟨h.2 i hi, (h.1 i hi).2⟩
theorem slice_from (g N o : Nat) (h : o < N) (w : World) : (Instr.slice 30 (.slice (some ⟨g, 0, none⟩) N N) (some (.int .i64 (o : Int))) none none).run Tryz.prog w = .ok (.slice (some ⟨g, o, none⟩) (N - o) (N - o)) w := by
  have ht : Tryz.prog.underlying 30 = some (.slice (Tryz.prog.elem 30)) := by kernel_rfl
  obtain ⟨i0, hi, hz0, hz1, hz2⟩ := info_parts info_byte
  have he : Tryz.prog.elem 30 = 5 := by kernel_rfl
  rw [run_slice_l w 30 _ N N ht .i64 o (by omega) (by omega), he]
  have hs : (sizeOf 5).run Tryz.prog w = .ok 1 w := by simp [sizeOf, typeInfo, hi, hz1]
  rw [hs]
  have h0 : ¬ N = o := by omega
  simp only [Result.andThen, sliced, Int.toNat_natCast, Nat.mul_one, Option.map_some]
  simp only [Addr.add_mid]
  simp
  intro h
  exact absurd h h0
theorem size_byte2 : (Tryz.prog.info? 5).map (·.size) = some 1 := by kernel_rfl
theorem new_half (w : World) (cs : Array Value) (n : Nat) (hn : n ≤ cs.size) (x : Int) : Half ((w.alloc (.cells cs 5)).drewN 2) w.heap.size n 0 x := by
  have hb : ((w.alloc (.cells cs 5)).drewN 2).heap[w.heap.size]? = some (.cells cs 5 (0, 0)) := heap_alloc_new w _
  refine ⟨fun j hj => ⟨?_, frozen_of_row hb j⟩, fun i hi => by omega⟩
  rw [cell_of_row _ _ j cs 5 (0, 0) hb]
  simp [show j < cs.size by omega]
theorem Mul_0 (w : World) : Calls Tryz.prog 121 #[.int .u64 1, .int .u64 38016] w fun e w' => e = .returned (.tuple #[.int .u64 0, .int .u64 38016]) ∧ w = w' := by
  go_enter Tryz.func121, Tryz.ntmps121
  go_wp2_with (first | go_in)
  go_ret2
  exact ⟨rfl, rfl⟩
theorem Mul_1 (w : World) : Calls Tryz.prog 121 #[.int .u64 1, .int .u64 152064] w fun e w' => e = .returned (.tuple #[.int .u64 0, .int .u64 152064]) ∧ w = w' := by
  go_enter Tryz.func121, Tryz.ntmps121
  go_wp2_with (first | go_in)
  go_ret2
  exact ⟨rfl, rfl⟩
set_option maxRecDepth 100000 in
set_option maxHeartbeats 1000000 in
theorem Repeat_any (Z b : Nat) (x : Int) (w : World) (hz : 8192 < Z ∧ Z ≤ 200000) (hM : ∀ w, Calls Tryz.prog 121 #[.int .u64 1, .int .u64 (Z : Int)] w fun e w' => e = .returned (.tuple #[.int .u64 0, .int .u64 (Z : Int)]) ∧ w = w') (hc : w.cell? ⟨b, 0, none⟩ = some (.int .u8 x)) : Calls Tryz.prog 74 #[.slice (some ⟨b, 0, none⟩) 1 1, .int .i64 (Z : Int)] w fun e w' => ∃ g, e = .returned (.slice (some ⟨g, 0, none⟩) Z Z) ∧ w.heap.size ≤ g ∧ g < w'.heap.size ∧ Arr w' .u8 g Z (fun _ => x) ∧ Below w.heap.size w w' := by
  have hbl := World.block_lt_of_cell? w _ hc
  have hbl : b < w.heap.size := hbl
  obtain ⟨cs, hrunM, hle, hmax⟩ := Lib.run_makeNoZero (P := Tryz.prog) w #[3] 30 5 Tryz.underlying30 Z (by omega)
  have hcall : (callFunc 122 #[.int .i64 (Z : Int)]).run Tryz.prog w = .ok (.value (.slice (some ⟨w.heap.size, 0, none⟩) Z cs.size)) ((w.alloc (.cells cs 5)).drewN 2) := by
    have hrunM : (Extern.BytealgMakeNoZero.makeNoZero #[3] #[30] #[.int .i64 (Z : Int)]).run Tryz.prog w = .ok (.slice (some ⟨w.heap.size, 0, none⟩) Z cs.size) (w.drew.drew.alloc (.cells cs 5)) := hrunM
    rw [run_callFunc_extern Tryz.func122 (by kernel_rfl) (by kernel_rfl) (by kernel_rfl) (e := Extern.BytealgMakeNoZero.makeNoZero #[3] #[30]) (by kernel_rfl), hrunM]
    rfl
  clear hrunM
  have H0 := Lib.hid (new_half w cs Z hle x)
  have hB0 : Below w.heap.size w ((w.alloc (.cells cs 5)).drewN 2) := below_drewN ((Below.refl _ _).alloc (Nat.le_refl _) _) 2
  have HB0 := Lib.hid hB0
  have cb : ((w.alloc (.cells cs 5)).drewN 2).cell? ⟨b, 0, none⟩ = some (.int .u8 x) := (hB0.cell (p := ⟨b, 0, none⟩) hbl).trans hc
  have SRC := Lib.hid (fun (j : Nat) (hj : j < 1) => show ((w.alloc (.cells cs 5)).drewN 2).cell? ((⟨b, 0, none⟩ : Addr).add j) = some (.int .u8 ((fun _ => x) j)) from by
    obtain rfl : j = 0 := by omega
    exact cb)
  have i1 : (Z : Int) ≤ (cs.size : Int) := by omega
  have HMN := Lib.hid (Nat.min_eq_left (show 1 ≤ Z by omega)).symm
  clear hc hB0 cb hmax
  have zb : 8192 < (Z : Int) ∧ (Z : Int) ≤ 200000 := by omega
  go_enter Tryz.func74, Tryz.ntmps74
  go_wp2_with (first
    | (go_at_call 121; refine (hM _).mono ?_; rintro e w1 ⟨rfl, rfl⟩)
    | (refine wpList_copy_there rfl (.tmp 58) (.tmp 59) 30 30 rfl 5 Tryz.underlying30 size_byte2 .u8 w.heap.size 0 1 Z 1 _ _ (fun _ => x) ⟨b, 0, none⟩ rfl rfl HMN.out (fun j hj => H0.out.1 (0 + j) (by omega)) SRC.out ?_; intro w1 hw1; have H1 := Lib.hid (H0.out.more 1 (by omega)); have HB1 := Lib.hid (HB0.out.grown (grown_setCells w.heap.size ((List.range 1).map fun _ => .int .u8 x) 0 _) HB0.out.size (fun q e => by have := Option.some.inj e; omega)); rw [← hw1] at H1 HB1; clear hw1 H0 HB0 SRC hcall))
  go_loopw [10, 11] (fun i _ wr => ∃ p : Nat, 1 ≤ p ∧ p ≤ Z ∧ i = .int .i64 p ∧ Half wr w.heap.size Z p x ∧ Below w.heap.size w wr) (fun i _ _ => Z - (intOf i).toNat)
  case atStart => exact ⟨1, by omega, by omega, rfl, H1.out, HB1.out⟩
  case round =>
    clear H1 HB1
    obtain ⟨p, hp1, hp, rfl, h1, h2⟩ := hrel
    by_cases hpn : p < Z
    · obtain ⟨ch, hch⟩ : ∃ ch : Nat, min p 8192 = ch := ⟨_, rfl⟩
      have mn : min (p : Int) 8192 = (ch : Int) := by omega
      obtain ⟨m, hm⟩ : ∃ m : Nat, Nat.min ch (Z - p) = m := ⟨_, rfl⟩
      have hm' : min ch (Z - p) = m := hm
      have mb : 1 ≤ m ∧ p + m ≤ Z ∧ m ≤ ch ∧ ch ≤ p ∧ ch ≤ Z := by omega
      have s1 := fun W => slice_from w.heap.size Z p hpn W
      have s2 := fun W => slice_to w.heap.size Z Z ch (by omega) W
      have TH := Lib.hid (fun (j : Nat) (hj : j < m) => show (wr.drew.cell? ⟨w.heap.size, p + j, none⟩).isSome = true ∧ wr.drew.frozen? ⟨w.heap.size, p + j, none⟩ = false from h1.1 (p + j) (by omega))
      have SRC := Lib.hid (fun (j : Nat) (hj : j < m) => show wr.drew.cell? ((⟨w.heap.size, 0, none⟩ : Addr).add j) = some (.int .u8 ((fun _ => x) j)) from by
        rw [Addr.add_lit, Nat.zero_add]
        exact h1.2 j (by omega))
      have H1 := Lib.hid h1
      have HB := Lib.hid h2
      have HM := Lib.hid hm
      have pb : (0 : Int) ≤ (p : Int) ∧ (p : Int) < (Z : Int) := by omega
      have e1 : IntKind.i64.wrap ((p : Int) + (m : Int)) = (p : Int) + (m : Int) := IntWalk.i64_in _ (by omega)
      clear h1 h2 hch hm hm'
      go_wp2_with fail
      go_region_law (refine step_copy_there rfl (.tmp 70) (.tmp 73) 30 30 rfl 5 Tryz.underlying30 size_byte2 .u8 w.heap.size p m (Z - p) ch (Z - p) Z (fun _ => x) ⟨w.heap.size, 0, none⟩ (by go_simp) (by go_simp) HM.out.symm TH.out SRC.out ?_; intro w2 hw2; have H2 := Lib.hid (show Half (wr.drew.setCells w.heap.size p ((List.range m).map fun _ => .int .u8 x)) w.heap.size Z (p + m) x from Half.more (W := wr.drew) ⟨H1.out.1, H1.out.2⟩ m mb.2.1); have HB2 := Lib.hid (HB.out.drew.grown (grown_setCells w.heap.size ((List.range m).map fun _ => .int .u8 x) p _) HB.out.size (fun q e => by have := Option.some.inj e; omega)); rw [← hw2] at H2 HB2; clear hw2)
      clear e1
      simp only [Act.put, List.getElem_toArray, List.getElem_cons_zero, List.getElem_cons_succ, List.setIfInBounds_toArray, List.set_cons_zero, List.set_cons_succ]
      go_wp2_with fail
      go_roundw
      case rel => exact ⟨p + m, by omega, by omega, by go_num, H2.out, HB2.out⟩
      case measure => simp [intOf]; omega
    · obtain rfl : p = Z := by omega
      have HA := Lib.hid h1.arr
      have HB := Lib.hid h2
      clear h1 h2
      go_wp2_with fail
      go_ret
      exact ⟨_, rfl, Nat.le_refl _, HA.out.lt (by omega), HA.out, HB.out⟩
end Pa
end Go.Proofs.YtbmglemjfodfhaaGreat
namespace Go.Proofs.YtbmglemjfodfhaaGreat
open Go.RowKit
namespace Pa
open Fr Pt
def gryN (n : Int) : Nat := (zV n).toNat
theorem gry_in {n : Int} (h : n = 0 ∨ n = 1) : (gryN n : Int) = zV n ∧ 8192 < gryN n ∧ gryN n ≤ 200000 := by rcases h with rfl | rfl <;> decide
theorem gry_out {n : Int} (h : ¬ (n = 0 ∨ n = 1)) : gryN n = 0 := by
  unfold gryN zV
  rw [if_neg (by omega), if_neg (by omega)]; rfl
theorem fE_in {n : Int} (h : n = 0 ∨ n = 1) : fE n = 0 := by unfold fE; rw [if_pos h]
theorem fE_out {n : Int} (h : ¬ (n = 0 ∨ n = 1)) : fE n = 3 := by unfold fE; rw [if_neg h]
set_option maxRecDepth 100000 in
theorem Grey_any (n : Int) (w : World) : Calls Tryz.prog 30 #[.int .i64 n] w fun e w' => ∃ v, e = .returned v ∧ Res .u8 w.heap.size w' v (gryN n) (fun _ => 128) ∧ Below w.heap.size w w' := by
  by_cases h : n = 0 ∨ n = 1
  · have hz := gry_in h
    have HM : ∀ w, Calls Tryz.prog 121 #[.int .u64 1, .int .u64 (gryN n : Int)] w fun e w' => e = .returned (.tuple #[.int .u64 0, .int .u64 (gryN n : Int)]) ∧ w = w' := by
      rcases h with rfl | rfl
      · exact fun w => Mul_0 w
      · exact fun w => Mul_1 w
    have HF := Lib.hid (fE_in h)
    obtain ⟨Z, hZ⟩ : ∃ Z, gryN n = Z := ⟨_, rfl⟩
    rw [hZ] at hz HM ⊢
    have HZ := Lib.hid hz.1
    have zb := hz.2
    have c128 : (w.alloc (.cells #[.int .u8 128] 5)).cell? ⟨w.heap.size, 0, none⟩ = some (.int .u8 128) := ((Arr.new w .u8 #[.int .u8 128] 5 1 (fun _ => 128) (fun i hi => by
      obtain rfl : i = 0 := by omega
      rfl)) 0 (by omega)).1
    clear hz hZ h
    go_enter Tryz.func30, Tryz.ntmps30
    go_wp2_with (go_at_call 73; refine (Size_any n _).mono ?_; rintro e w1 ⟨rfl, rfl⟩; rw [HF.out, ← HZ.out])
    (go_at_call 74; refine (Repeat_any Z _ 128 _ zb HM c128).mono ?_; rintro e w2 ⟨g, rfl, l1, l2, hA, hB⟩; have HA := Lib.hid hA; have HB := Lib.hid (chain ((Below.refl w.heap.size w).alloc (Nat.le_refl _) _) hB); have l3 : w.heap.size ≤ g := Nat.le_trans (by simp) l1; clear hA hB l1)
    go_wp2_with fail
    go_ret
    exact ⟨_, rfl, .inr ⟨g, Z, rfl, l3, l2, Nat.le_refl _, by unfold maxLen; omega, HA.out⟩, HB.out⟩
  · have HF := Lib.hid (fE_out h)
    have HG := Lib.hid (gry_out h)
    clear h
    go_enter Tryz.func30, Tryz.ntmps30
    go_wp2_with (go_at_call 73; refine (Size_any n _).mono ?_; rintro e w1 ⟨rfl, rfl⟩; rw [HF.out])
    go_ret
    exact ⟨_, rfl, .inl ⟨HG.out, rfl⟩, Below.refl _ _⟩
set_option maxRecDepth 100000 in
theorem rGrey_any (n : Int) (w : World) : Calls Tryz.prog 107 #[.int .i64 n] w fun e w' => ∃ v, e = .returned v ∧ Res .u8 w.heap.size w' v (gryN n) (fun _ => 128) ∧ Below w.heap.size w w' := by
  by_cases h : n = 0 ∨ n = 1
  · have hz := gry_in h
    have HF := Lib.hid (fE_in h)
    obtain ⟨Z, hZ⟩ : ∃ Z, gryN n = Z := ⟨_, rfl⟩
    rw [hZ] at hz ⊢
    have HZ := Lib.hid hz.1
    have zb := hz.2
    obtain ⟨i0, hi, hz0, hz1, hz2⟩ := info_parts info_byte
    clear hz hZ h
    go_enter Tryz.func107, Tryz.ntmps107
    go_wp2_with (first
      | (go_at_call 77; refine (Rf.rSize_any n _).mono ?_; rintro e w1 ⟨rfl, rfl⟩; rw [HF.out, ← HZ.out])
      | (refine wpList_make_full w rfl _ _ 30 rfl w.heap.size 5 i0 (.int .u8 0) 1 Tryz.underlying30 hi hz0 hz1 .i64 .i64 _ _ Z rfl rfl rfl rfl (by rw [hz2]; omega) (by unfold maxLen; omega) (Nat.le_refl _) ?_; intro w1 hown hgr; have HA := Lib.hid (made_arr hown); have HB := Lib.hid ((Below.refl w.heap.size w).grown hgr (Nat.le_refl _) (fun _ e => by cases e)); clear hown hgr))
    go_loopw [8] (fun i wr => ∃ k : Nat, k ≤ Z ∧ i = .int .i64 k ∧ Arr wr .u8 w.heap.size Z (fun i => if i < k then 128 else 0) ∧ Below w.heap.size w wr) (fun i _ => Z - (intOf i).toNat)
    case atStart => exact ⟨0, by omega, rfl, HA.out.start, HB.out⟩
    case round =>
      clear HA HB
      obtain ⟨k, hk, rfl, hA, hB⟩ := hrel
      by_cases hkn : k < Z
      · have c1 := hA k hkn
        simp only [Nat.lt_irrefl, if_false] at c1
        have HA := Lib.hid hA
        have HB := Lib.hid hB
        have kb : (0 : Int) ≤ (k : Int) ∧ (k : Int) < (Z : Int) := by omega
        clear hA hB
        go_wp2_with fail
        go_roundw
        case rel => exact ⟨k + 1, by omega, by go_num, Arr.fill (g := fun _ => 128) HA.out 128 rfl, HB.out.setCell (p := ⟨w.heap.size, k, none⟩) (Nat.le_refl _) _⟩
        case measure => simp [intOf]; omega
      · have hk' : Z ≤ k := by omega
        have HA : Hid (Arr wr .u8 w.heap.size Z (fun _ => 128)) := Lib.hid (hA.congr (fun i hi => by rw [if_pos (by omega)]))
        have HB := Lib.hid hB
        have hlt := hA.lt (show 0 < Z by omega)
        clear hA hB
        go_wp2_with fail
        go_ret
        exact ⟨_, rfl, .inr ⟨w.heap.size, Z, rfl, Nat.le_refl _, hlt, Nat.le_refl _, by unfold maxLen; omega, HA.out⟩, HB.out⟩
  · have HF := Lib.hid (fE_out h)
    have HG := Lib.hid (gry_out h)
    clear h
    go_enter Tryz.func107, Tryz.ntmps107
    go_wp2_with (go_at_call 77; refine (Rf.rSize_any n _).mono ?_; rintro e w1 ⟨rfl, rfl⟩; rw [HF.out])
    go_ret
    exact ⟨_, rfl, .inl ⟨HG.out, rfl⟩, Below.refl _ _⟩
def layG (n g a k : Int) (N M : Nat) (s f : Nat → Int) : Nat → Int := if layE n g a k N M = 0 then layN (pA n g a k).toNat (pS n g a k).toNat s f 64 else f
def copG (n g a : Int) (N M : Nat) (F f : Nat → Int) : Nat → Int := if copE n g a N M = 0 then copF n g a F f 6 else f
theorem layE_zero {n g a k : Int} {N M : Nat} (h : layE n g a k N M = 0) : cE n g a = 0 ∧ (N : Int) = zV n ∧ M = 64 ∧ 1 ≤ k ∧ k ≤ 6 := by
  unfold layE at h
  by_cases h1 : cE n g a = 0
  · rw [if_neg (by omega)] at h
    by_cases h2 : (N : Int) ≠ zV n ∨ M ≠ 64
    · rw [if_pos h2] at h; cases h
    · rw [if_neg h2] at h
      by_cases h3 : k < 1 ∨ 6 < k
      · rw [if_pos h3] at h; cases h
      · omega
  · rw [if_pos h1] at h; exact absurd h h1
theorem layE_ok {n g a k : Int} {N M : Nat} (h1 : cE n g a = 0) (h2 : (N : Int) = zV n) (h3 : M = 64) (h4 : 1 ≤ k ∧ k ≤ 6) : layE n g a k N M = 0 := by
  unfold layE
  rw [if_neg (by omega), if_neg (by omega), if_neg (by omega)]
theorem zV_big {n g a : Int} (hc : cE n g a = 0) : 38016 ≤ zV n ∧ zV n ≤ 152064 := by rcases (cE_cases n g a hc).1 with rfl | rfl <;> decide
theorem sl_row {w : World} {q : Option Addr} {M d : Nat} {s : Nat → Int} (h : Sl .u8 w (.slice q M d) M s) (h0 : 0 < M) : ∃ b o, q = some ⟨b, o, none⟩ ∧ M ≤ d ∧ Ints w .u8 b o M s := by
  obtain ⟨a, c, e, h1, _, h3⟩ := h
  cases e
  rcases h3 with ⟨e, _⟩ | ⟨b, o, e, _, h4⟩
  · exact absurd e (by omega)
  · exact ⟨b, o, e, h1, h4⟩
theorem Lay_any (b N R c : Nat) (q : Option Addr) (M d : Nat) (f s : Nat → Int) (n g a k : Int) (w : World) (hA : Arr w .u8 b R f) (hR : N ≤ R) (hNc : N ≤ c) (h0 : 0 < R) (hs : Sl .u8 w (.slice q M d) M s) (hne : 0 < M → ∀ x, q = some x → x.block ≠ b) :
    Calls Tryz.prog 18 #[.slice (some ⟨b, 0, none⟩) N c, .agg #[.int .i64 n, .int .i64 g, .int .i64 a], .int .i64 k, .slice q M d] w fun e w' => e = .returned (.int .i64 (layE n g a k N M)) ∧ Arr w' .u8 b R (layG n g a k N M s f) ∧ w.grownBy w' (some b) := by
  have hb := hA.lt h0
  have out : layE n g a k N M ≠ 0 → ∀ (e : Ending) (w' : World), e = .returned (.int .i64 (layE n g a k N M)) ∧ Below w.heap.size w w' → e = .returned (.int .i64 (layE n g a k N M)) ∧ Arr w' .u8 b R (layG n g a k N M s f) ∧ w.grownBy w' (some b) := fun hE e w' h => ⟨h.1, by unfold layG; rw [if_neg hE]; exact hA.below h.2 hb, grown_of_below h.2 _⟩
  by_cases h1 : cE n g a = 0
  · by_cases h2 : (N : Int) = zV n
    · by_cases h3 : M = 64
      · subst h3
        by_cases h4 : 1 ≤ k ∧ k ≤ 6
        · obtain ⟨sb, so, rfl, hd, hI⟩ := sl_row hs (by omega)
          have hE := layE_ok h1 h2 rfl h4
          have fit := place_fit n g a k h1 h4
          rw [hE]
          refine (lay_yes b N R c sb so d (pA n g a k).toNat (pS n g a k).toNat f s n g a k w hA hR hNc hI hd (hne (by omega) _ rfl) h1 h2 h4 (by omega) (by omega)).mono ?_
          rintro e w' ⟨rfl, h5, h6⟩
          exact ⟨rfl, by unfold layG; rw [if_pos hE]; exact h5, h6⟩
        · exact (lay_no4 _ _ N c d n g a k w h1 h2 (by omega)).mono (out (fun h => h4 (layE_zero h).2.2.2))
      · exact (lay_no3 _ _ N c M d n g a k w h1 h2 h3).mono (out (fun h => h3 (layE_zero h).2.2.1))
    · exact (lay_no2 _ _ N c M d n g a k w h1 h2).mono (out (fun h => h2 (layE_zero h).2.1))
  · exact (lay_no1 _ _ N c M d n g a k w h1).mono (out (fun h => h1 (layE_zero h).1))
theorem refE_one (n g a : Int) (N : Nat) : refE n g a 1 (fun _ => (N : Int)) = if cE n g a ≠ 0 then cE n g a else if (N : Int) = zV n then 0 else 2 := by
  unfold refE
  by_cases h1 : cE n g a = 0
  · rw [if_neg (show ¬ cE n g a ≠ 0 by omega), if_neg (show ¬ cE n g a ≠ 0 by omega)]
    by_cases h2 : (N : Int) = zV n
    · rw [if_pos (show allZ _ _ 1 from fun i _ => h2), if_pos h2]
    · rw [if_neg (show ¬ allZ _ _ 1 from fun h => h2 (h 0 (by omega))), if_neg h2]
  · rw [if_pos h1, if_pos h1]
theorem rLay_any (b N R c : Nat) (q : Option Addr) (M d : Nat) (f s : Nat → Int) (n g a k : Int) (w : World) (hA : Arr w .u8 b R f) (hR : N ≤ R) (h0 : 0 < R) (hs : Sl .u8 w (.slice q M d) M s) (hne : 0 < M → ∀ x, q = some x → x.block ≠ b) (hRN : (N : Int) = zV n → R = N) :
    Calls Tryz.prog 70 #[.slice (some ⟨b, 0, none⟩) N c, .agg #[.int .i64 n, .int .i64 g, .int .i64 a], .int .i64 k, .slice q M d] w fun e w' => e = .returned (.int .i64 (layE n g a k N M)) ∧ Arr w' .u8 b R (layG n g a k N M s f) ∧ w.grownBy w' (some b) := by
  have hb := hA.lt h0
  have out : ∀ x, layE n g a k N M = x → x ≠ 0 → ∀ (e : Ending) (w' : World), e = .returned (.int .i64 x) ∧ Below w.heap.size w w' → e = .returned (.int .i64 (layE n g a k N M)) ∧ Arr w' .u8 b R (layG n g a k N M s f) ∧ w.grownBy w' (some b) := fun x hx hE e w' h => ⟨by rw [hx]; exact h.1, by unfold layG; rw [hx, if_neg hE]; exact hA.below h.2 hb, grown_of_below h.2 _⟩
  by_cases h1 : cE n g a = 0
  · by_cases h2 : (N : Int) = zV n
    · have hr : refE n g a 1 (fun _ => (N : Int)) = 0 := by rw [refE_one, if_neg (by omega), if_pos h2]
      by_cases h3 : M = 64
      · subst h3
        by_cases h4 : 1 ≤ k ∧ k ≤ 6
        · obtain ⟨sb, so, rfl, hd, hI⟩ := sl_row hs (by omega)
          have hE := layE_ok h1 h2 rfl h4
          have fit := place_fit n g a k h1 h4
          obtain rfl := hRN h2
          rw [hE]
          refine (rlay_yes b R c sb so d (pA n g a k).toNat (pS n g a k).toNat f s n g a k w hA hI (hne (by omega) _ rfl) h1 h2 h4 (by omega) (by omega)).mono ?_
          rintro e w' ⟨rfl, h5, h6⟩
          exact ⟨rfl, by unfold layG; rw [if_pos hE]; exact h5, h6⟩
        · have e1 : pE n g a k = 3 := by unfold pE; rw [if_neg (by omega), if_pos (by omega)]
          have e2 : layE n g a k N 64 = 3 := by unfold layE; rw [if_neg (by omega), if_neg (by omega), if_pos (by omega)]
          have := rlay_no3 (some ⟨b, 0, none⟩) q N c d n g a k w hr (by omega)
          rw [e1] at this
          exact this.mono (out 3 e2 (by decide))
      · have e2 : layE n g a k N M = 2 := by unfold layE; rw [if_neg (by omega), if_pos (by omega)]
        exact (rlay_no2 _ _ N c M d n g a k w hr h3).mono (out 2 e2 (by decide))
    · have hr : refE n g a 1 (fun _ => (N : Int)) = 2 := by rw [refE_one, if_neg (by omega), if_neg h2]
      have e2 : layE n g a k N M = 2 := by unfold layE; rw [if_neg (by omega), if_pos (by omega)]
      have := rlay_no1 (some ⟨b, 0, none⟩) q N c M d n g a k w (by omega)
      rw [hr] at this
      exact this.mono (out 2 e2 (by decide))
  · have hr : refE n g a 1 (fun _ => (N : Int)) = cE n g a := by rw [refE_one, if_pos h1]
    have e2 : layE n g a k N M = cE n g a := by unfold layE; rw [if_pos h1]
    have := rlay_no1 (some ⟨b, 0, none⟩) q N c M d n g a k w (by omega)
    rw [hr] at this
    exact this.mono (out _ e2 h1)
theorem Copy_any (b N R c : Nat) (q : Option Addr) (M d : Nat) (f F : Nat → Int) (n g a : Int) (w : World) (hA : Arr w .u8 b R f) (hR : N ≤ R) (hNc : N ≤ c) (h0 : 0 < R) (hs : Sl .u8 w (.slice q M d) M F) (hne : 0 < M → ∀ x, q = some x → x.block ≠ b) :
    Calls Tryz.prog 32 #[.slice (some ⟨b, 0, none⟩) N c, .slice q M d, .agg #[.int .i64 n, .int .i64 g, .int .i64 a]] w fun e w' => e = .returned (.int .i64 (copE n g a N M)) ∧ Arr w' .u8 b R (copG n g a N M F f) ∧ w.grownBy w' (some b) := by
  have hb := hA.lt h0
  have out : copE n g a N M ≠ 0 → ∀ (e : Ending) (w' : World), e = .returned (.int .i64 (copE n g a N M)) ∧ Below w.heap.size w w' → e = .returned (.int .i64 (copE n g a N M)) ∧ Arr w' .u8 b R (copG n g a N M F f) ∧ w.grownBy w' (some b) := fun hE e w' h => ⟨h.1, by unfold copG; rw [if_neg hE]; exact hA.below h.2 hb, grown_of_below h.2 _⟩
  by_cases h1 : cE n g a = 0
  · by_cases h2 : (N : Int) = zV n
    · by_cases h3 : M = N
      · subst h3
        have zb := zV_big h1
        obtain ⟨sb, so, rfl, hd, hI⟩ := sl_row hs (by omega)
        have hE := copE_ok h1 h2 h2
        rw [hE]
        refine (copy_yes b M R c sb so d f F n g a w hA hR hNc hI hd (hne (by omega) _ rfl) h1 h2).mono ?_
        rintro e w' ⟨rfl, h5, h6⟩
        exact ⟨rfl, by unfold copG; rw [if_pos hE]; exact h5, h6⟩
      · exact (copy_no3 _ _ N c M d n g a w h1 h2 h3).mono (out (fun h => h3 (by have := copE_zero h; omega)))
    · exact (copy_no2 _ _ N c M d n g a w h1 h2).mono (out (fun h => h2 (copE_zero h).2.1))
  · exact (copy_no1 _ _ N c M d n g a w h1).mono (out (fun h => h1 (copE_zero h).1))
theorem rCopy_any (b N R c : Nat) (q : Option Addr) (M d : Nat) (f F : Nat → Int) (n g a : Int) (w : World) (hA : Arr w .u8 b R f) (h0 : 0 < R) (hs : Sl .u8 w (.slice q M d) M F) (hne : 0 < M → ∀ x, q = some x → x.block ≠ b) (hRN : (N : Int) = zV n → R = N) :
    Calls Tryz.prog 71 #[.slice (some ⟨b, 0, none⟩) N c, .slice q M d, .agg #[.int .i64 n, .int .i64 g, .int .i64 a]] w fun e w' => e = .returned (.int .i64 (copE n g a N M)) ∧ Arr w' .u8 b R (copG n g a N M F f) ∧ w.grownBy w' (some b) := by
  have hb := hA.lt h0
  by_cases hE : copE n g a N M = 0
  · obtain ⟨h1, h2, h3⟩ := copE_zero hE
    obtain rfl : M = N := by omega
    have zb := zV_big h1
    obtain ⟨sb, so, rfl, hd, hI⟩ := sl_row hs (by omega)
    obtain rfl := hRN h2
    rw [hE]
    refine (rcopy_yes b R c sb so d f F n g a w hA hI (hne (by omega) _ rfl) h1 h2).mono ?_
    rintro e w' ⟨rfl, h5, h6⟩
    exact ⟨rfl, by unfold copG; rw [if_pos hE]; exact h5, h6⟩
  · refine (rcopy_no _ _ N c M d n g a w hE).mono ?_
    rintro e w' ⟨h, h2⟩
    exact ⟨h, by unfold copG; rw [if_neg hE]; exact hA.below h2 hb, grown_of_below h2 _⟩
theorem lay_lent (A S N : Nat) (s f : Nat → Int) (h : A + 7 * S + 8 ≤ N) : ∀ k, k ≤ 64 → layN A S s (lentF N f) k = lentF N (layN A S s f k)
  | 0, _ => rfl
  | k + 1, hk => by
    have ih := lay_lent A S N s f h k (by omega)
    have hjS : k / 8 * S ≤ 7 * S := Nat.mul_le_mul_right S (by omega)
    funext i
    show putOne A S s (layN A S s (lentF N f) k) k i = lentF N (putOne A S s (layN A S s f k) k) i
    rw [ih]
    unfold putOne lentF
    dsimp only
    by_cases hi : i = A + k / 8 * S + k % 8
    · rw [if_pos hi, if_pos (by omega), if_pos hi]
    · rw [if_neg hi, if_neg hi]
theorem copF_lent (n g a : Int) (N : Nat) (F f : Nat → Int) (hc : cE n g a = 0) (hN : (N : Int) = zV n) : ∀ k, k ≤ 6 → copF n g a F (lentF N f) k = lentF N (copF n g a F f k)
  | 0, _ => rfl
  | k + 1, hk => by
    have ih := copF_lent n g a N F f hc hN k (by omega)
    have fit := bl_fit n g a (k + 1) hc (by omega)
    show layN _ _ _ (copF n g a F (lentF N f) k) 64 = lentF N (layN _ _ _ (copF n g a F f k) 64)
    rw [ih]
    exact lay_lent _ _ N _ _ (by omega) 64 (by omega)
theorem copG_lent (n g a : Int) (N M : Nat) (F f : Nat → Int) : copG n g a N M F (lentF N f) = lentF N (copG n g a N M F f) := by
  unfold copG
  by_cases h : copE n g a N M = 0
  · rw [if_pos h, if_pos h]
    exact copF_lent n g a N F f (copE_zero h).1 (copE_zero h).2.1 6 (by omega)
  · rw [if_neg h, if_neg h]
end Pa
end Go.Proofs.YtbmglemjfodfhaaGreat
namespace Go.Proofs.YtbmglemjfodfhaaGreat
open Go.RowKit
namespace Pa
open Fr Pt
def adr (n g a : Int) (k i : Nat) : Nat := blA n g a k + i / 8 * blS n g a k + i % 8
theorem lay_keep {A S : Nat} {F f : Nat → Int} {i : Nat} (h : f i = F i) : ∀ m, layN A S (srcF A S F) f m i = F i
  | 0 => h
  | m + 1 => by
    show putOne A S (srcF A S F) (layN A S (srcF A S F) f m) m i = F i
    unfold putOne
    by_cases hi : i = A + m / 8 * S + m % 8
    · rw [if_pos hi, hi]; rfl
    · rw [if_neg hi]; exact lay_keep h m
theorem cop_keep {n g a : Int} {F f : Nat → Int} {i : Nat} (h : f i = F i) : ∀ k, copF n g a F f k i = F i
  | 0 => h
  | k + 1 => lay_keep (cop_keep h k) 64
theorem cop_in {n g a : Int} {F f : Nat → Int} {k i : Nat} (hc : cE n g a = 0) (hk : 1 ≤ k ∧ k ≤ 6) (hi : i < 64) : ∀ m, k ≤ m → m ≤ 6 → copF n g a F f m (adr n g a k i) = F (adr n g a k i)
  | 0, h, _ => by omega
  | m + 1, h, h6 => by
    by_cases e : k = m + 1
    · subst e
      exact lay_at _ _ _ _ (bl_fit n g a (m + 1) hc (by omega)).2.2.2.1 64 i hi
    · exact lay_keep (cop_in hc hk hi m (by omega) (by omega)) 64
theorem adr_nat (n g a : Int) (k i p : Nat) (hc : cE n g a = 0) (hk : 1 ≤ k ∧ k ≤ 6) (h : (p : Int) = pA n g a k + (i : Int) / 8 * pS n g a k + (i : Int) % 8) : p = adr n g a k i := by
  have fit := bl_fit n g a k hc hk
  unfold adr
  rw [← fit.1, ← fit.2.1] at h
  have e : ((i / 8 * blS n g a k : Nat) : Int) = (i : Int) / 8 * (blS n g a k : Int) := by push_cast; rfl
  omega
theorem cover (n : Int) (hn : n = 0 ∨ n = 1) (p : Nat) (hp : (p : Int) < zV n) : ∃ j a k i : Nat, j < grN n ∧ (1 ≤ a ∧ a ≤ 33) ∧ (1 ≤ k ∧ k ≤ 6) ∧ i < 64 ∧ p = adr n (grF n j) a k i := by
  rcases hn with rfl | rfl
  · obtain ⟨⟨h1, h2, h3, h4⟩, h5⟩ := Wh.parts_ok0 (p := p) (by have : zV 0 = 38016 := rfl; omega)
    have e := Wh.ix_pl0 (Wh.pj0 p) (Wh.pm0 p + 1) (Wh.pk0 p + 1) (Wh.pi0 p) h1 (by omega) (by omega)
    rw [Nat.add_sub_cancel, Nat.add_sub_cancel, h5] at e
    have hg := Wh.ing_of 0 (Wh.pj0 p) h1
    have hr := Wh.pl_row 0 (grF 0 (Wh.pj0 p)) ((Wh.pm0 p + 1 : Nat) : Int) ((Wh.pk0 p + 1 : Nat) : Int) (.inl rfl) hg (by omega) (by omega)
    refine ⟨Wh.pj0 p, Wh.pm0 p + 1, Wh.pk0 p + 1, Wh.pi0 p, h1, by omega, by omega, h4, adr_nat _ _ _ _ _ _ (Wh.cE_ok 0 _ _ (.inl rfl) hg (by omega)) (by omega) ?_⟩
    rw [hr.1, hr.2.1]
    exact e
  · obtain ⟨⟨h1, h2, h3, h4⟩, h5⟩ := Wh.parts_ok1 (p := p) (by have : zV 1 = 152064 := rfl; omega)
    have e := Wh.ix_pl1 (Wh.pj1 p) (Wh.pm1 p + 1) (Wh.pk1 p + 1) (Wh.pi1 p) h1 (by omega) (by omega)
    rw [Nat.add_sub_cancel, Nat.add_sub_cancel, h5] at e
    have hg := Wh.ing_of 1 (Wh.pj1 p) h1
    have hr := Wh.pl_row 1 (grF 1 (Wh.pj1 p)) ((Wh.pm1 p + 1 : Nat) : Int) ((Wh.pk1 p + 1 : Nat) : Int) (.inr rfl) hg (by omega) (by omega)
    refine ⟨Wh.pj1 p, Wh.pm1 p + 1, Wh.pk1 p + 1, Wh.pi1 p, h1, by omega, by omega, h4, adr_nat _ _ _ _ _ _ (Wh.cE_ok 1 _ _ (.inr rfl) hg (by omega)) (by omega) ?_⟩
    rw [hr.1, hr.2.1]
    exact e
def Cop (n : Int) (F f : Nat → Int) (G A : Int) : Prop := ∀ j a k i : Nat, j < grN n → (1 ≤ a ∧ a ≤ 33) → (1 ≤ k ∧ k ≤ 6) → i < 64 → (grF n j < G ∨ (grF n j = G ∧ (a : Int) < A)) → f (adr n (grF n j) a k i) = F (adr n (grF n j) a k i)
theorem grN_val : grN 0 = 3 ∧ grN 1 = 12 := ⟨rfl, rfl⟩
theorem Cop.start (n : Int) (hn : n = 0 ∨ n = 1) (F f : Nat → Int) : Cop n F f 1 1 := fun j a k i _ ha _ _ h => by
  unfold grF at h
  rcases hn with rfl | rfl <;> omega
theorem Cop.copy {n : Int} {F f : Nat → Int} {G A : Int} (h : Cop n F f G A) (hc : cE n G A = 0) : Cop n F (copF n G A F f 6) G (A + 1) := fun j a k i hj ha hk hi hb => by
  by_cases e : grF n j = G ∧ (a : Int) = A
  · obtain ⟨e1, e2⟩ := e
    rw [e1, e2]
    exact cop_in hc hk hi 6 hk.2 (by omega)
  · exact cop_keep (h j a k i hj ha hk hi (by omega)) 6
theorem Cop.next {n : Int} {F f : Nat → Int} {G : Int} (h : Cop n F f G 34) : Cop n F f (G + 1) 1 := fun j a k i hj ha hk hi hb => h j a k i hj ha hk hi (by omega)
theorem Cop.skip {F f : Nat → Int} {G : Int} (h : Cop 0 F f G 1) (hG : 5 < G ∨ G % 2 = 0) : Cop 0 F f (G + 1) 1 := fun j a k i hj ha hk hi hb => h j a k i hj ha hk hi (by
  have : j < 3 := hj
  unfold grF at hb ⊢
  omega)
theorem Cop.all {n : Int} (hn : n = 0 ∨ n = 1) {F f : Nat → Int} (h : Cop n F f 13 1) (p : Nat) (hp : (p : Int) < zV n) : f p = F p := by
  obtain ⟨j, a, k, i, hj, ha, hk, hi, rfl⟩ := cover n hn p hp
  exact h j a k i hj ha hk hi (.inl (by unfold grF; rcases hn with rfl | rfl <;> (have := grN_val; omega)))
end Pa
end Go.Proofs.YtbmglemjfodfhaaGreat
namespace Go.Proofs.YtbmglemjfodfhaaGreat
open Go.RowKit
namespace Pa
open Fr Pt
def layB (n g a : Int) (k : Nat) (s f : Nat → Int) : Nat → Int := layN (blA n g a k) (blS n g a k) s f 64
def cnt (D : Nat → Prop) [DecidablePred D] : Nat → Nat
  | 0 => 0
  | n + 1 => cnt D n + if D n then 1 else 0
theorem cnt_mono (D E : Nat → Prop) [DecidablePred D] [DecidablePred E] (h : ∀ i, D i → E i) : ∀ n, cnt D n ≤ cnt E n
  | 0 => Nat.le_refl _
  | n + 1 => by
    have ih := cnt_mono D E h n
    unfold cnt
    by_cases hd : D n
    · rw [if_pos hd, if_pos (h n hd)]; omega
    · rw [if_neg hd]; split <;> omega
end Pa
end Go.Proofs.YtbmglemjfodfhaaGreat
