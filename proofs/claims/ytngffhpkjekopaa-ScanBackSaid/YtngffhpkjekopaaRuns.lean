/- scan.Runs. -/
import Derived.Test.YtngffhpkjekopaaRunsP
import Derived.Test.YtngffhpkjekopaaSpread
import Derived.Deep.AppendLies
namespace Go.Proofs.Ytngffhpkjekopaa
open Go.RowKit
theorem Sc.info_pair : (Try.prog.info? 39).map (fun i => (i.zero, i.size, i.bytes)) = some (some (.agg #[.int .i64 0, .int .i64 0]), 2, 16) := by kernel_rfl
theorem Sc.Ints.range {w : World} {k : IntKind} {b o n : Nat} {f : Nat → Int} (h : Ints w k b o n f) : w.rangeAt b o ((List.range n).map fun i => Value.int k (f i)) := by
  intro j v hv
  have hj : j < n := by
    have := (List.getElem?_eq_some_iff.1 hv).1
    simpa using this
  rw [h j hj]
  simpa [hj] using hv
theorem Sc.wpList_load_ints {P : Program} {ops : Array Oper} {rest : List Oper} {o : Oper} {a : Act} {w : World} {Q : Exit → Act → World → Prop} (hgd : o.guard = none) (ty : TypeId) (x : Operand) (ho : o.op = .load ty x)
    {k : IntKind} {g off n m : Nat} {f : Nat → Int} {e : TypeId} (hx : a.eval x = .pointer (some ⟨g, off, none⟩)) (h : Ints w k g off n f) (hu : P.underlying ty = some (.array m e)) (hi : (P.info? ty).map (·.size) = some n)
    (hK : wpList P ops Q rest (a.put o.dst (.agg (rowOf k n f))) w) : wpList P ops Q (o :: rest) a w :=
  wpList_load_mid hgd ty x ho g off hx ((List.range n).map fun i => Value.int k (f i)) (.array m e) (Sc.Ints.range h) hu rfl (by simpa using hi) hK
theorem Sc.run_arrayAt {P : Program} (w : World) {ty e : TypeId} {m n c : Nat} {a : Option Addr} (hu : P.underlying ty = some (.array m e)) (h : m ≤ n) : (Instr.arrayAt ty (.slice a n c)).run P w = .ok (.pointer a) w := by
  have : ¬ n < m := by omega
  simp [Instr.arrayAt, run_underlying hu w, this]
namespace Sc

theorem runs_first (v : Value) (first : Int) (n : Nat) (f : Nat → Int) (w : World) (hf : ¬ (first = 0 ∨ first = 1)) :
    Calls Try.prog 18 #[v, .int .i64 first] w (RunsTo w first n f) := by
  have E1 : Hid (rE first n f = 3) := Lib.hid (by unfold rE; rw [if_neg hf])
  have k0 : (first == 0) = false := by simp; omega
  have k1 : (first == 1) = false := by simp; omega
  have k2 : (first != 0) = true := by simp; omega
  have k3 : (first != 1) = true := by simp; omega
  clear hf
  go_enter Try.func18, Try.ntmps18
  go_wp2
  go_ret2
  exact runsTo_no E1.out (by decide) (Below.refl _ _)
theorem runs_len0 (a : Option Addr) (n c : Nat) (f : Nat → Int) (w : World) (hn : n ≠ 64) :
    Calls Try.prog 18 #[.slice a n c, .int .i64 0] w (RunsTo w 0 n f) := by
  have E1 : Hid (rE 0 n f = 2) := Lib.hid (by unfold rE; rw [if_pos (by decide), if_pos (.inl hn)])
  have k : ((n : Int) == 64) = false := by simp; omega
  have k2 : ((n : Int) != 64) = true := by simp; omega
  clear hn
  go_enter Try.func18, Try.ntmps18
  go_wp2
  go_ret2
  exact runsTo_no E1.out (by decide) (Below.refl _ _)
theorem runs_len1 (a : Option Addr) (n c : Nat) (f : Nat → Int) (w : World) (hn : n ≠ 64) :
    Calls Try.prog 18 #[.slice a n c, .int .i64 1] w (RunsTo w 1 n f) := by
  have E1 : Hid (rE 1 n f = 2) := Lib.hid (by unfold rE; rw [if_pos (by decide), if_pos (.inl hn)])
  have k : ((n : Int) == 64) = false := by simp; omega
  have k2 : ((n : Int) != 64) = true := by simp; omega
  clear hn
  go_enter Try.func18, Try.ntmps18
  go_wp2
  go_ret2
  exact runsTo_no E1.out (by decide) (Below.refl _ _)
theorem runs_head (b o c : Nat) (f : Nat → Int) (w : World) (h : Ints w .i64 b o 64 f) (h0 : f 0 ≠ 0) :
    Calls Try.prog 18 #[.slice (some ⟨b, o, none⟩) 64 c, .int .i64 1] w (RunsTo w 1 64 f) := by
  have E1 : Hid (rE 1 64 f = 2) := Lib.hid (by unfold rE; rw [if_pos (by decide), if_pos (.inr ⟨rfl, h0⟩)])
  have k : (f 0 == 0) = false := by simp [h0]
  have k2 : (f 0 != 0) = true := by simp [h0]
  have c0 := h 0 (by omega)
  rw [Nat.add_zero] at c0
  clear h0 h
  go_enter Try.func18, Try.ntmps18
  go_wp2
  go_ret2
  exact runsTo_no E1.out (by decide) (Below.refl _ _)
set_option maxRecDepth 100000 in
set_option maxHeartbeats 4000000 in
theorem runs_row0 (b o c : Nat) (f : Nat → Int) (w : World) (h : Ints w .i64 b o 64 f) :
    Calls Try.prog 18 #[.slice (some ⟨b, o, none⟩) 64 c, .int .i64 0] w (RunsTo w 0 64 f) := by
  obtain ⟨i0, hi, hz0, hz1, hz2⟩ := info_parts info_pair
  have HE : Hid (rE 0 64 f = if okV f 64 then 0 else 10) := Lib.hid (by unfold rE; rw [if_pos (by decide), if_neg (by rintro (h | ⟨h, _⟩) <;> simp at h)])
  have H := Lib.hid h
  have HZ := zeros64
  have M0 := Lib.hid (Arr.new w .i64 (rowOf .i64 64 (fun _ => 0)) 48 64 (fun _ => 0) (fun i hi => rowOf_get _ _ _ _ hi))
  have B0 := Lib.hid ((Below.refl w.heap.size w).alloc (Nat.le_refl _) (.cells (rowOf .i64 64 (fun _ => 0)) 48))
  have SA := fun w' => run_arrayAt (P := Try.prog) (n := 64) (c := c) (a := some ⟨b, o, none⟩) w' Try.underlying48 (Nat.le_refl 64)
  clear h
  go_enter Try.func18, Try.ntmps18
  go_wp2_with (first
    | (refine wpList_load_ints rfl 48 (.tmp 36) rfl rfl H.out Try.underlying48 (by kernel_rfl) ?_)
    | (refine wpList_store_arr rfl 48 (.tmp 6) (.tmp 37) rfl rfl rfl M0.out (by kernel_rfl) ?_; intro w2 HA2 HG2; have HB := Lib.hid (B0.out.grown HG2.out (by simp) (fun g hg => by cases hg; exact Nat.le_refl _)); clear M0 B0)
    | (refine wpList_load_arr rfl 48 (.tmp 6) rfl rfl HA2.out Try.underlying48 (by kernel_rfl) ?_))
  go_loopw [39] (fun i wr => ∃ k : Nat, k ≤ 64 ∧ i = .int .i64 k ∧ okV f k = true ∧ wr = w2) (fun i _ => 64 - (intOf i).toNat)
  case atStart => exact ⟨0, by omega, rfl, rfl, rfl⟩
  case round =>
    obtain ⟨k, hk, rfl, hok, rfl⟩ := hrel
    by_cases hk64 : k < 64
    · have kb : (0 : Int) ≤ (k : Int) ∧ (k : Int) < 64 := by omega
      have i1 := fun w' => run_index_num (P := Try.prog) w' (k := .i64) (f := f) (n := 64) Try.underlying48 Try.underlying3 (by kernel_rfl) .i64 k (k : Int) rfl hk64
      have OK := Lib.hid hok
      clear hok
      cases gl : lvl (f k)
      · have ES : Hid (rE 0 64 f = 10) := Lib.hid (by rw [HE.out, okV_not hk64 gl]; rfl)
        go_wp2_with (go_at_call 26; refine (level_any _ _).mono ?_; rintro e w3 ⟨rfl, rfl⟩; rw [gl])
        go_ret2
        exact runsTo_no ES.out (by decide) HB.out
      · go_wp2_with (go_at_call 26; refine (level_any _ _).mono ?_; rintro e w3 ⟨rfl, rfl⟩; rw [gl])
        go_roundw
        case rel => exact ⟨k + 1, by omega, by go_num, by rw [okV_succ, OK.out, gl]; rfl, by trivial⟩
        case measure => simp [intOf]; omega
    · have hE : Hid (rE 0 64 f = 0) := Lib.hid (by
        obtain rfl : k = 64 := by omega
        rw [HE.out, hok]; rfl)
      have hk' : (64 : Int) ≤ (k : Int) := by omega
      clear hok
      go_wp2_with (first
        | (go_at_call 25; refine (places_any _).mono ?_; rintro e w1 ⟨rfl, b1⟩; have z0 := HB.out.size; have HB := Lib.hid (chain HB.out b1); have HA := Lib.hid (HA2.out.below b1 (HA2.out.lt (by omega))); have z1 := HB.out.size; have M1 := Lib.hid (Arr.new w1 .i64 (rowOf .i64 64 (fun _ => 0)) 48 64 (fun _ => 0) (fun i hi => rowOf_get _ _ _ _ hi)); have lw : w.heap.size < w1.heap.size := HA.out.lt (by omega); clear b1)
        | (refine wpList_store_arr rfl 48 (.tmp 11) (.tmp 46) rfl rfl rfl M1.out (by kernel_rfl) ?_; intro w3 HP3 HG3; have HB := Lib.hid ((HB.out.alloc z1 _).grown HG3.out (by simp; omega) (fun g hg => by cases hg; exact z1)); have HA := Lib.hid ((HA.out.alloc _).grown HG3.out (fun e => by have := Option.some.inj e; omega))))
      have l2 : w1.heap.size < w3.heap.size := HP3.out.lt (by omega)
      clear HZ
      go_loopw [9, 10, 50] (fun v run i wr => ∃ j : Nat, j ≤ 64 - 0 ∧ i = .int .i64 j ∧ run = .int .i64 (ruS f 0 j).run ∧ wr.ownsRow (w1.heap.size + 1) 39 2 v (ruS f 0 j).c (ruCells f 0 j) ∧ Arr wr .i64 w.heap.size 64 f ∧ Arr wr .i64 w1.heap.size 64 plF ∧ Below w.heap.size w wr)
        (fun _ _ i _ => 64 - 0 - (intOf i).toNat)
      case atStart => exact ⟨0, by omega, rfl, rfl, World.ownsRow_nil _ _ _ _, HA.out, HP3.out, HB.out⟩
      case round =>
        obtain ⟨j, hj, rfl, rfl, hown, hA, hP, hB⟩ := hrel
        by_cases hj64 : j < 64 - 0
        · have jb : (0 : Int) ≤ (j : Int) ∧ (j : Int) < 64 - 0 := by omega
          have bd := ruS_bd f 0 j
          have HZ := @ruS_zero f 0 j
          have HS := @ruS_some f 0 j
          have CZ := @ruCells_zero f 0 j
          have CS := @ruCells_some f 0 j
          have cP := (hP (0 + j) (by omega)).1
          have p64 := at_lt0 (0 + j) (by omega)
          obtain ⟨p, hp⟩ : ∃ p, p = at' (0 + j) := ⟨_, rfl⟩
          have PE : plF (0 + j) = (p : Int) := by rw [hp]; rfl
          rw [PE] at cP
          rw [Nat.zero_add] at cP
          rw [← hp] at HZ HS CZ CS p64
          have pb : (0 : Int) ≤ (p : Int) ∧ (p : Int) < 64 := by omega
          have cA := (hA p p64).1
          have HZ := Lib.hid HZ
          have HS := Lib.hid HS
          have CZ := Lib.hid CZ
          have CS := Lib.hid CS
          have HA := Lib.hid hA
          have HP := Lib.hid hP
          have HB := Lib.hid hB
          have OWN := Lib.hid hown
          clear hA hP hB hown hp PE
          by_cases g : f p = 0
          · have k0 : (f p == 0) = true := by simp [g]
            go_wp2
            go_roundw
            case rel => exact ⟨j + 1, by omega, by go_num, by rw [(HZ.out g).2.1], by rw [(HZ.out g).1, CZ.out g]; exact OWN.out, HA.out, HP.out, HB.out⟩
            case measure => simp [intOf]; omega
          · have k0 : (f p == 0) = false := by simp [g]
            have z0 := HB.out.size
            have lp := HP.out.lt (by omega)
            go_wp2_with (at_builtin; refine wpList_append_own _ rfl _ _ 22 rfl (w1.heap.size + 1) 39 i0 (.agg #[.int .i64 0, .int .i64 0]) 2 16 Try.underlying22 hi hz0 hz1 hz2 rfl (by decide) _ _ _ rfl (OWN.out.alloc _) ⟨wr.heap.size, 0, none⟩ 1 1 [.int .i64 (ruS f 0 j).run, .int .i64 (f p)] rfl rfl (World.news_of_block (cs := #[.int .i64 (ruS f 0 j).run, .int .i64 (f p)]) (t := 39) (fr := (0, 0)) (heap_alloc_new wr _)) (by simp [Value.oneCell']) (by unfold maxLen; omega) (by omega) (by simp; omega) ?_; intro v' w5 hown2 hgr hnil)
            have hown3 : w5.ownsRow (w1.heap.size + 1) 39 2 v' (ruS f 0 (j + 1)).c (ruCells f 0 (j + 1)) := by rw [(HS.out g).1, CS.out g]; exact hown2
            have hB5 : Below w.heap.size w w5 := (HB.out.alloc z0 (.cells #[.int .i64 (ruS f 0 j).run, .int .i64 (f p)] 39)).grown hgr (by simp; omega) (fun q hq => by have := (OWN.out.lt q hq).1; omega)
            have hA5 : Arr w5 .i64 w.heap.size 64 f := (HA.out.alloc (.cells #[.int .i64 (ruS f 0 j).run, .int .i64 (f p)] 39)).grown hgr (fun e => by have := (OWN.out.lt _ e.symm).1; omega)
            have hP5 : Arr w5 .i64 w1.heap.size 64 plF := (HP.out.alloc (.cells #[.int .i64 (ruS f 0 j).run, .int .i64 (f p)] 39)).grown hgr (fun e => by have := (OWN.out.lt _ e.symm).1; omega)
            clear hown2 hgr hnil
            go_roundw
            case rel => exact ⟨j + 1, by omega, by go_num, by rw [(HS.out g).2.1], hown3, hA5, hP5, hB5⟩
            case measure => simp [intOf]; omega
        · obtain rfl : j = 64 - 0 := by omega
          have OWN := Lib.hid hown
          have HB := Lib.hid hB
          have z0 := HA2.out.lt (by omega)
          have z5 : w.heap.size ≤ w1.heap.size := by omega
          clear hown hB hA hP
          go_wp2
          go_ret2
          exact runsTo_yes (first := 0) hE.out (by omega) OWN.out HB.out
set_option maxRecDepth 100000 in
set_option maxHeartbeats 4000000 in
theorem runs_row1 (b o c : Nat) (f : Nat → Int) (w : World) (h : Ints w .i64 b o 64 f) (h0 : f 0 = 0) :
    Calls Try.prog 18 #[.slice (some ⟨b, o, none⟩) 64 c, .int .i64 1] w (RunsTo w 1 64 f) := by
  obtain ⟨i0, hi, hz0, hz1, hz2⟩ := info_parts info_pair
  have HE : Hid (rE 1 64 f = if okV f 64 then 0 else 10) := Lib.hid (by unfold rE; rw [if_pos (by decide), if_neg (by rintro (h | ⟨_, h⟩); (simp at h); exact h h0)])
  have c0 := h 0 (by omega)
  rw [Nat.add_zero, h0] at c0
  have H := Lib.hid h
  have HZ := zeros64
  have M0 := Lib.hid (Arr.new w .i64 (rowOf .i64 64 (fun _ => 0)) 48 64 (fun _ => 0) (fun i hi => rowOf_get _ _ _ _ hi))
  have B0 := Lib.hid ((Below.refl w.heap.size w).alloc (Nat.le_refl _) (.cells (rowOf .i64 64 (fun _ => 0)) 48))
  have SA := fun w' => run_arrayAt (P := Try.prog) (n := 64) (c := c) (a := some ⟨b, o, none⟩) w' Try.underlying48 (Nat.le_refl 64)
  clear h
  go_enter Try.func18, Try.ntmps18
  go_wp2_with (first
    | (refine wpList_load_ints rfl 48 (.tmp 36) rfl rfl H.out Try.underlying48 (by kernel_rfl) ?_)
    | (refine wpList_store_arr rfl 48 (.tmp 6) (.tmp 37) rfl rfl rfl M0.out (by kernel_rfl) ?_; intro w2 HA2 HG2; have HB := Lib.hid (B0.out.grown HG2.out (by simp) (fun g hg => by cases hg; exact Nat.le_refl _)); clear M0 B0)
    | (refine wpList_load_arr rfl 48 (.tmp 6) rfl rfl HA2.out Try.underlying48 (by kernel_rfl) ?_))
  go_loopw [39] (fun i wr => ∃ k : Nat, k ≤ 64 ∧ i = .int .i64 k ∧ okV f k = true ∧ wr = w2) (fun i _ => 64 - (intOf i).toNat)
  case atStart => exact ⟨0, by omega, rfl, rfl, rfl⟩
  case round =>
    obtain ⟨k, hk, rfl, hok, rfl⟩ := hrel
    by_cases hk64 : k < 64
    · have kb : (0 : Int) ≤ (k : Int) ∧ (k : Int) < 64 := by omega
      have i1 := fun w' => run_index_num (P := Try.prog) w' (k := .i64) (f := f) (n := 64) Try.underlying48 Try.underlying3 (by kernel_rfl) .i64 k (k : Int) rfl hk64
      have OK := Lib.hid hok
      clear hok
      cases gl : lvl (f k)
      · have ES : Hid (rE 1 64 f = 10) := Lib.hid (by rw [HE.out, okV_not hk64 gl]; rfl)
        go_wp2_with (go_at_call 26; refine (level_any _ _).mono ?_; rintro e w3 ⟨rfl, rfl⟩; rw [gl])
        go_ret2
        exact runsTo_no ES.out (by decide) HB.out
      · go_wp2_with (go_at_call 26; refine (level_any _ _).mono ?_; rintro e w3 ⟨rfl, rfl⟩; rw [gl])
        go_roundw
        case rel => exact ⟨k + 1, by omega, by go_num, by rw [okV_succ, OK.out, gl]; rfl, by trivial⟩
        case measure => simp [intOf]; omega
    · have hE : Hid (rE 1 64 f = 0) := Lib.hid (by
        obtain rfl : k = 64 := by omega
        rw [HE.out, hok]; rfl)
      have hk' : (64 : Int) ≤ (k : Int) := by omega
      clear hok
      go_wp2_with (first
        | (go_at_call 25; refine (places_any _).mono ?_; rintro e w1 ⟨rfl, b1⟩; have z0 := HB.out.size; have HB := Lib.hid (chain HB.out b1); have HA := Lib.hid (HA2.out.below b1 (HA2.out.lt (by omega))); have z1 := HB.out.size; have M1 := Lib.hid (Arr.new w1 .i64 (rowOf .i64 64 (fun _ => 0)) 48 64 (fun _ => 0) (fun i hi => rowOf_get _ _ _ _ hi)); have lw : w.heap.size < w1.heap.size := HA.out.lt (by omega); clear b1)
        | (refine wpList_store_arr rfl 48 (.tmp 11) (.tmp 46) rfl rfl rfl M1.out (by kernel_rfl) ?_; intro w3 HP3 HG3; have HB := Lib.hid ((HB.out.alloc z1 _).grown HG3.out (by simp; omega) (fun g hg => by cases hg; exact z1)); have HA := Lib.hid ((HA.out.alloc _).grown HG3.out (fun e => by have := Option.some.inj e; omega))))
      have l2 : w1.heap.size < w3.heap.size := HP3.out.lt (by omega)
      clear HZ
      go_loopw [9, 10, 50] (fun v run i wr => ∃ j : Nat, j ≤ 64 - 1 ∧ i = .int .i64 j ∧ run = .int .i64 (ruS f 1 j).run ∧ wr.ownsRow (w1.heap.size + 1) 39 2 v (ruS f 1 j).c (ruCells f 1 j) ∧ Arr wr .i64 w.heap.size 64 f ∧ Arr wr .i64 w1.heap.size 64 plF ∧ Below w.heap.size w wr)
        (fun _ _ i _ => 64 - 1 - (intOf i).toNat)
      case atStart => exact ⟨0, by omega, rfl, rfl, World.ownsRow_nil _ _ _ _, HA.out, HP3.out, HB.out⟩
      case round =>
        obtain ⟨j, hj, rfl, rfl, hown, hA, hP, hB⟩ := hrel
        by_cases hj64 : j < 64 - 1
        · have jb : (0 : Int) ≤ (j : Int) ∧ (j : Int) < 64 - 1 := by omega
          have bd := ruS_bd f 1 j
          have HZ := @ruS_zero f 1 j
          have HS := @ruS_some f 1 j
          have CZ := @ruCells_zero f 1 j
          have CS := @ruCells_some f 1 j
          have cP := (hP (1 + j) (by omega)).1
          have p64 := at_lt0 (1 + j) (by omega)
          obtain ⟨p, hp⟩ : ∃ p, p = at' (1 + j) := ⟨_, rfl⟩
          have PE : plF (1 + j) = (p : Int) := by rw [hp]; rfl
          rw [PE] at cP
          rw [← hp] at HZ HS CZ CS p64
          have pb : (0 : Int) ≤ (p : Int) ∧ (p : Int) < 64 := by omega
          have cA := (hA p p64).1
          have HZ := Lib.hid HZ
          have HS := Lib.hid HS
          have CZ := Lib.hid CZ
          have CS := Lib.hid CS
          have HA := Lib.hid hA
          have HP := Lib.hid hP
          have HB := Lib.hid hB
          have OWN := Lib.hid hown
          clear hA hP hB hown hp PE
          by_cases g : f p = 0
          · have k0 : (f p == 0) = true := by simp [g]
            go_wp2
            go_roundw
            case rel => exact ⟨j + 1, by omega, by go_num, by rw [(HZ.out g).2.1], by rw [(HZ.out g).1, CZ.out g]; exact OWN.out, HA.out, HP.out, HB.out⟩
            case measure => simp [intOf]; omega
          · have k0 : (f p == 0) = false := by simp [g]
            have z0 := HB.out.size
            have lp := HP.out.lt (by omega)
            go_wp2_with (at_builtin; refine wpList_append_own _ rfl _ _ 22 rfl (w1.heap.size + 1) 39 i0 (.agg #[.int .i64 0, .int .i64 0]) 2 16 Try.underlying22 hi hz0 hz1 hz2 rfl (by decide) _ _ _ rfl (OWN.out.alloc _) ⟨wr.heap.size, 0, none⟩ 1 1 [.int .i64 (ruS f 1 j).run, .int .i64 (f p)] rfl rfl (World.news_of_block (cs := #[.int .i64 (ruS f 1 j).run, .int .i64 (f p)]) (t := 39) (fr := (0, 0)) (heap_alloc_new wr _)) (by simp [Value.oneCell']) (by unfold maxLen; omega) (by omega) (by simp; omega) ?_; intro v' w5 hown2 hgr hnil)
            have hown3 : w5.ownsRow (w1.heap.size + 1) 39 2 v' (ruS f 1 (j + 1)).c (ruCells f 1 (j + 1)) := by rw [(HS.out g).1, CS.out g]; exact hown2
            have hB5 : Below w.heap.size w w5 := (HB.out.alloc z0 (.cells #[.int .i64 (ruS f 1 j).run, .int .i64 (f p)] 39)).grown hgr (by simp; omega) (fun q hq => by have := (OWN.out.lt q hq).1; omega)
            have hA5 : Arr w5 .i64 w.heap.size 64 f := (HA.out.alloc (.cells #[.int .i64 (ruS f 1 j).run, .int .i64 (f p)] 39)).grown hgr (fun e => by have := (OWN.out.lt _ e.symm).1; omega)
            have hP5 : Arr w5 .i64 w1.heap.size 64 plF := (HP.out.alloc (.cells #[.int .i64 (ruS f 1 j).run, .int .i64 (f p)] 39)).grown hgr (fun e => by have := (OWN.out.lt _ e.symm).1; omega)
            clear hown2 hgr hnil
            go_roundw
            case rel => exact ⟨j + 1, by omega, by go_num, by rw [(HS.out g).2.1], hown3, hA5, hP5, hB5⟩
            case measure => simp [intOf]; omega
        · obtain rfl : j = 64 - 1 := by omega
          have OWN := Lib.hid hown
          have HB := Lib.hid hB
          have z0 := HA2.out.lt (by omega)
          have z5 : w.heap.size ≤ w1.heap.size := by omega
          clear hown hB hA hP
          go_wp2
          go_ret2
          exact runsTo_yes (first := 1) hE.out (by omega) OWN.out HB.out
theorem Runs_any (v : Value) (first : Int) (n : Nat) (f : Nat → Int) (w : World) (hs : Sl .i64 w v n f) :
    Calls Try.prog 18 #[v, .int .i64 first] w (RunsTo w first n f) := by
  by_cases hf : first = 0 ∨ first = 1
  · obtain ⟨a, c, rfl, _, _, h3⟩ := hs
    by_cases hn : n = 64
    · subst hn
      rcases h3 with ⟨h0, _⟩ | ⟨b, o, rfl, _, h⟩
      · omega
      · rcases hf with rfl | rfl
        · exact runs_row0 b o c f w h
        · by_cases h0 : f 0 = 0
          · exact runs_row1 b o c f w h h0
          · exact runs_head b o c f w h h0
    · rcases hf with rfl | rfl
      · exact runs_len0 a n c f w hn
      · exact runs_len1 a n c f w hn
  · exact runs_first v first n f w hf
end Sc
end Go.Proofs.Ytngffhpkjekopaa
