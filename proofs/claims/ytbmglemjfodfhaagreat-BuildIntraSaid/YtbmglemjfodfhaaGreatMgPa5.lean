/- paint: Copy. -/
import Derived.Test.YtbmglemjfodfhaaGreatMgPa8
set_option linter.unusedVariables false
set_option linter.unusedSimpArgs false

namespace Go.Proofs.YtbmglemjfodfhaaGreat
open Go.RowKit Go.Shelf
attribute [local go_sem] Oper.semAt_some
namespace Pa
open Fr Pt

theorem copy_no1 (p q : Option Addr) (N c M d : Nat) (n g a : Int) (w : World) (hc : cE n g a ≠ 0) :
    Calls Tryz.prog 32 #[.slice p N c, .slice q M d, .agg #[.int .i64 n, .int .i64 g, .int .i64 a]] w fun e w' => e = .returned (.int .i64 (copE n g a N M)) ∧ Below w.heap.size w w' := by
  have E : Hid (copE n g a N M = cE n g a) := Lib.hid (by unfold copE refE; rw [if_pos hc])
  obtain ⟨x, hx⟩ : ∃ x, cE n g a = x := ⟨_, rfl⟩
  have HX := Lib.hid hx
  rw [hx] at hc
  have t0 : (x != 0) = true := by simpa using hc
  clear hc hx
  go_enter Tryz.func32, Tryz.ntmps32
  go_wp2_with (go_at_call 55; refine (corner_any n g a _).mono ?_; rintro e w1 ⟨rfl, hB⟩; rw [HX.out]; have HB := Lib.hid (chain ((((Below.refl w.heap.size w).alloc (Nat.le_refl _) _)).alloc (by simp) _) hB); clear hB)
  go_ret
  exact ⟨by rw [E.out, HX.out]; rfl, HB.out⟩
theorem copE_two {n g a : Int} {N M : Nat} (hc : cE n g a = 0) (h : (N : Int) ≠ zV n ∨ (M : Int) ≠ zV n) : copE n g a N M = 2 := by
  unfold copE refE
  rw [if_neg (by omega), if_neg]
  intro ha
  rcases h with h | h
  · exact h (ha 0 (by omega))
  · exact h (ha 1 (by omega))
theorem copy_no2 (p q : Option Addr) (N c M d : Nat) (n g a : Int) (w : World) (hc : cE n g a = 0) (hN : (N : Int) ≠ zV n) :
    Calls Tryz.prog 32 #[.slice p N c, .slice q M d, .agg #[.int .i64 n, .int .i64 g, .int .i64 a]] w fun e w' => e = .returned (.int .i64 (copE n g a N M)) ∧ Below w.heap.size w w' := by
  have E : Hid (copE n g a N M = 2) := Lib.hid (copE_two hc (.inl hN))
  obtain ⟨z, hz⟩ : ∃ z, zV n = z := ⟨_, rfl⟩
  have HZ : Hid (coN n g a = z) := Lib.hid (by unfold coN; rw [if_pos hc, hz])
  have HX := Lib.hid hc
  rw [hz] at hN
  have t0 : ((N : Int) != z) = true := by simpa using hN
  clear hc hz hN
  go_enter Tryz.func32, Tryz.ntmps32
  go_wp2_with (go_at_call 55; refine (corner_any n g a _).mono ?_; rintro e w1 ⟨rfl, hB⟩; rw [HX.out, HZ.out]; have HB := Lib.hid (chain ((((Below.refl w.heap.size w).alloc (Nat.le_refl _) _)).alloc (by simp) _) hB); clear hB)
  go_ret
  exact ⟨by rw [E.out]; rfl, HB.out⟩
theorem copy_no3 (p q : Option Addr) (N c M d : Nat) (n g a : Int) (w : World) (hc : cE n g a = 0) (hN : (N : Int) = zV n) (hM : M ≠ N) :
    Calls Tryz.prog 32 #[.slice p N c, .slice q M d, .agg #[.int .i64 n, .int .i64 g, .int .i64 a]] w fun e w' => e = .returned (.int .i64 (copE n g a N M)) ∧ Below w.heap.size w w' := by
  have E : Hid (copE n g a N M = 2) := Lib.hid (copE_two hc (.inr (by omega)))
  have HZ : Hid (coN n g a = (N : Int)) := Lib.hid (by unfold coN; rw [if_pos hc, hN])
  have HX := Lib.hid hc
  have t0 : ((M : Int) != (N : Int)) = true := by simp; omega
  have t1 : (M != N) = true := by simp; omega
  clear hc hN hM
  go_enter Tryz.func32, Tryz.ntmps32
  go_wp2_with (go_at_call 55; refine (corner_any n g a _).mono ?_; rintro e w1 ⟨rfl, hB⟩; rw [HX.out, HZ.out]; have HB := Lib.hid (chain ((((Below.refl w.heap.size w).alloc (Nat.le_refl _) _)).alloc (by simp) _) hB); have c0 := (bcell hB).1 w.heap.size; clear hB)
  go_ret
  exact ⟨by rw [E.out]; rfl, HB.out⟩
def mkD (D : Nat) : Deferred := { target := .collected D, args := #[] }
def MarksOk (B : Nat) (ms : List Nat) (V : World) : Prop := ms.Nodup ∧ ∀ D ∈ ms, B ≤ D ∧ V.heap[D]? = some (.deferred (some []))
theorem MarksOk.below {B : Nat} {ms : List Nat} {V V' : World} (h : MarksOk B ms V) (hB : Below V.heap.size V V') : MarksOk B ms V' := ⟨h.1, fun D hD => ⟨(h.2 D hD).1, (hB.block D (Array.getElem?_eq_some_iff.1 (h.2 D hD).2).1).trans (h.2 D hD).2⟩⟩
def CopI (w : World) (b N R fb fo d : Nat) (n g a : Int) (F f : Nat → Int) (k : Nat) (V : World) : Prop := Arr V .u8 b R (copF n g a F f k) ∧ Ints V .u8 fb fo N F ∧ SpotAt V (w.heap.size + 1) n g a ∧ Boxed V w.heap.size 30 (.slice (some ⟨fb, fo, none⟩) N d) ∧ w.grownBy V (some b)
theorem own_spot {β : Type} {B : Nat} (D : Nat) (n g a : Int) : OwnFrom B (fun (_ : β) V => SpotAt V D n g a) := fun s A C row h hg hr => h.kept hg (fun e => by
  obtain ⟨_, o, ho, hc⟩ := hr D e.symm
  rw [show A.heap[D]? = _ from h] at ho
  cases ho
  cases hc)
theorem own_marks {β : Type} {B B0 : Nat} {ms : List Nat} (hlt : ∀ D ∈ ms, D < B) : OwnFrom B (fun (_ : β) V => MarksOk B0 ms V) := fun s A C row h hg hr => ⟨h.1, fun D hD => ⟨(h.2 D hD).1, (hg.block D (Array.getElem?_eq_some_iff.1 (h.2 D hD).2).1 (fun e => by have := (hr D e.symm).1; have := hlt D hD; omega)).trans (h.2 D hD).2⟩⟩
theorem leaves_marks {F : Fence} {n : Nat} {P : Program} {fn : Func} {tmps : Array Value} {R : Ending → World → Prop} {Inv : World → Prop} {B : Nat} (hI : ∀ V D, Inv V → B ≤ D → V.heap[D]? = some (.deferred (some [])) → Inv (V.putObj D (.deferred none)))
    (k : ∀ V', Inv V' → LeavesIn F n P fn tmps R [] .returning V') : ∀ (ms : List Nat) (V : World), MarksOk B ms V → Inv V → LeavesInM F n P fn tmps R (ms.map mkD) .returning V
  | [], V, _, h => k V h
  | D :: ms, V, hm, h => by
    have hD := hm.2 D (by simp)
    refine ⟨by simp, .inl ⟨D, _, rfl, run_takeDeferred hD.2, leaves_marks hI k ms _ ⟨(List.nodup_cons.1 hm.1).2, fun E hE => ⟨(hm.2 E (by simp [hE])).1, ?_⟩⟩ (hI V D h hD.1 hD.2)⟩⟩
    exact (World.putObj_heap_other (fun e => (List.nodup_cons.1 hm.1).1 (by rw [← e]; exact hE))).trans (hm.2 E (by simp [hE])).2
set_option maxRecDepth 100000 in
set_option maxHeartbeats 4000000 in
theorem copy_yes (b N R c fb fo d : Nat) (f F : Nat → Int) (n g a : Int) (w : World) (hA : Arr w .u8 b R f) (hR : N ≤ R) (hNc : N ≤ c) (hI : Ints w .u8 fb fo N F) (hNd : N ≤ d) (hne : fb ≠ b) (hc : cE n g a = 0) (hN : (N : Int) = zV n) :
    Calls Tryz.prog 32 #[.slice (some ⟨b, 0, none⟩) N c, .slice (some ⟨fb, fo, none⟩) N d, .agg #[.int .i64 n, .int .i64 g, .int .i64 a]] w fun e w' => e = .returned (.int .i64 0) ∧ Arr w' .u8 b R (copF n g a F f 6) ∧ w.grownBy w' (some b) := by
  have zb : 38016 ≤ zV n := by rcases (cE_cases n g a hc).1 with rfl | rfl <;> decide
  have HZ : Hid (coN n g a = (N : Int)) := Lib.hid (by unfold coN; rw [if_pos hc, hN])
  have HX := Lib.hid hc
  have BF : Hid (∀ k : Nat, 1 ≤ k ∧ k ≤ 6 → ((pA n g a k = (blA n g a k : Int) ∧ pS n g a k = (blS n g a k : Int)) ∧ pE n g a k = 0) ∧ blA n g a k + 7 * blS n g a k + 8 ≤ N ∧ blA n g a k ≤ 200000 ∧ blS n g a k ≤ 400) := Lib.hid (fun k hk => by
    have h := bl_fit n g a k hc hk
    refine ⟨⟨⟨h.1.symm, h.2.1.symm⟩, by unfold pE; rw [if_neg (by omega), if_neg (by omega)]⟩, ?_⟩
    omega)
  have hbl := hA.lt (by omega)
  have hsl := hI.lt (by omega)
  have HA := Lib.hid hA
  have HI := Lib.hid hI
  have s0 : SpotAt ((w.alloc (.cells #[.slice (some ⟨fb, fo, none⟩) N d] 30)).alloc (.cells #[.int .i64 n, .int .i64 g, .int .i64 a] 28)) (w.heap.size + 1) n g a := by
    have := heap_alloc_new (w.alloc (.cells #[.slice (some ⟨fb, fo, none⟩) N d] 30)) (.cells #[.int .i64 n, .int .i64 g, .int .i64 a] 28)
    rwa [World.size_alloc] at this
  have b4 := (Boxed.new w 30 (.slice (some ⟨fb, fo, none⟩) N d)).alloc (.cells #[.int .i64 n, .int .i64 g, .int .i64 a] 28)
  clear hc hN zb hA hI
  refine (callsIn_wide (n := 12)).1 ?_
  refine callsIn_of_wp_marks Tryz.func32 rfl trivial ?_ rfl
  simp only [Tryz.ntmps32, List.size_toArray, List.length_cons, List.length_nil, Nat.reduceAdd, Nat.reduceSub, Array.replicate_succ, Array.replicate_zero, List.push_toArray, List.append_toArray, List.nil_append, List.cons_append]
  gi_wp2_with (refine ⟨trivial, ?_⟩; gi_at_call 55; refine (callsIn_wide.2 (corner_any n g a _)).mono ?_; rintro e w1 ⟨rfl, hB⟩; rw [HX.out, HZ.out]; have HB := Lib.hid (chain ((((Below.refl w.heap.size w).alloc (Nat.le_refl _) _)).alloc (by simp) _) hB); have S1 := Lib.hid (s0.kept (grown_of_below hB none) (by simp)); have B4 := Lib.hid (b4.kept (grown_of_below hB none) (by simp)); have c0 := (bcell hB).1 w.heap.size; clear hB s0 b4)
  refine wpIn_loop (fun a' V => ∃ (k : Nat) (ms : List Nat) (u10 u11 u12 u13 u14 u35 u36 u37 u38 u39 u40 u41 u42 u43 u44 u45 u46 u47 u48 u49 u50 u51 u52 u53 u54 u55 u56 u57 u58 u59 u60 u61 u62 u63 u64 u65 u66 u67 u68 u69 u70 u71 : Value), k ≤ 6 ∧ a' = { tmps := #[.slice (some ⟨b, 0, none⟩) N c, .slice (some ⟨fb, fo, none⟩) N d, .agg #[.int .i64 n, .int .i64 g, .int .i64 a], undef, .pointer (some ⟨w.heap.size, 0, none⟩), .pointer (some ⟨w.heap.size + 1, 0, none⟩), .int .i64 0, .int .i64 (N : Int), .int .i64 0, .int .i64 ((k : Int) + 1), u10, u11, u12, u13, u14, .tuple #[.int .i64 (N : Int), .int .i64 0], .agg #[.int .i64 n, .int .i64 g, .int .i64 a], .tuple #[.int .i64 (N : Int), .int .i64 0], .int .i64 (N : Int), .int .i64 0, .bool false, .int .i64 0, .bool false, undef, .bool false, .slice (some ⟨b, 0, none⟩) N c, .int .i64 (N : Int), .int .i64 (N : Int), .bool false, .bool false, .slice (some ⟨fb, fo, none⟩) N d, .int .i64 (N : Int), .int .i64 (N : Int), .bool false, .bool false, u35, u36, u37, u38, u39, u40, u41, u42, u43, u44, u45, u46, u47, u48, u49, u50, u51, u52, u53, u54, u55, u56, u57, u58, u59, u60, u61, u62, u63, u64, u65, u66, u67, u68, u69, u70, u71], defers := ms.map mkD } ∧ CopI w b N R fb fo d n g a F f k V ∧ MarksOk w.heap.size ms V) (fun a' _ => 7 - (intOf (a'.tmps.getD 9 undef)).toNat) ?start ?round
  case start => exact ⟨0, [], undef, undef, undef, undef, undef, undef, undef, undef, undef, undef, undef, undef, undef, undef, undef, undef, undef, undef, undef, undef, undef, undef, undef, undef, undef, undef, undef, undef, undef, undef, undef, undef, undef, undef, undef, undef, undef, undef, undef, undef, undef, undef, by omega, rfl, ⟨HA.out.below HB.out hbl, HI.out.below HB.out hsl, S1.out, B4.out, grown_of_below HB.out _⟩, List.nodup_nil, fun D hD => by cases hD⟩
  case round =>
    clear HA HI HB S1 B4 c0
    rintro a' V ⟨k, ms, u10, u11, u12, u13, u14, u35, u36, u37, u38, u39, u40, u41, u42, u43, u44, u45, u46, u47, u48, u49, u50, u51, u52, u53, u54, u55, u56, u57, u58, u59, u60, u61, u62, u63, u64, u65, u66, u67, u68, u69, u70, u71, hk, rfl, ⟨h1, h2, h3, h4, h5⟩, hmk⟩
    by_cases hk6 : k < 6
    · obtain ⟨⟨⟨pa, ps⟩, pe⟩, fit⟩ := BF.out (k + 1) (by omega)
      rw [show ((k + 1 : Nat) : Int) = (k : Int) + 1 by omega] at pa ps pe
      obtain ⟨A, hAe⟩ : ∃ A, blA n g a (k + 1) = A := ⟨_, rfl⟩
      obtain ⟨S, hSe⟩ : ∃ S, blS n g a (k + 1) = S := ⟨_, rfl⟩
      rw [hAe] at pa fit
      rw [hSe] at ps fit
      have PA := Lib.hid pa
      have PS := Lib.hid ps
      have PE := Lib.hid pe
      have EN : Hid (copF n g a F f (k + 1) = layN A S (srcF A S F) (copF n g a F f k) 64) := Lib.hid (by rw [← hAe, ← hSe]; rfl)
      obtain ⟨c0, c1, c2⟩ := h3.cells
      have HA := Lib.hid h1
      have HI := Lib.hid h2
      have HS := Lib.hid h3
      have HV := Lib.hid h4
      have HG := Lib.hid h5
      have HM := Lib.hid hmk
      have sz := h5.size
      clear pa ps pe hAe hSe h1 h2 h3 h4 h5 hmk
      have kb : (k : Int) + 1 ≤ 6 := by omega
      gi_wp2_with (first
        | (refine ⟨trivial, ?_⟩; gi_at_call 56; refine (callsIn_wide.2 (Place_any n g a ((k : Int) + 1) _)).mono ?_; rintro e w2 ⟨rfl, hB⟩; rw [PA.out, PS.out, PE.out]; have HA := Lib.hid (HA.out.below hB (by omega)); have HI := Lib.hid (HI.out.below hB (by omega)); have HS := Lib.hid (HS.out.kept (grown_of_below hB none) (by simp)); have HV := Lib.hid (HV.out.kept (grown_of_below hB none) (by simp)); have HG := Lib.hid (grown_trans HG.out (grown_of_below hB _)); have HM := Lib.hid (HM.out.below hB); clear hB c0 c1 c2)
        | (refine ⟨trivial, ?_⟩; gi_at_call 57; refine (rows_in _ _ N c rfl _ _ _ _).mono ?_))
      obtain ⟨h0, hh0⟩ : ∃ h0, copF n g a F f k = h0 := ⟨_, rfl⟩
      rw [hh0] at HA EN
      clear hh0
      obtain ⟨Wa, hWa⟩ : ∃ Wa, (w2.alloc (.cells #[.int .i64 (A : Int)] 3)).alloc (.cells #[.int .i64 (S : Int)] 3) = Wa := ⟨_, rfl⟩
      have ba : Below w2.heap.size w2 Wa := by rw [← hWa]; exact ((Below.refl _ _).alloc (Nat.le_refl _) _).alloc (by simp) _
      have x1 : Boxed Wa w2.heap.size 3 (.int .i64 (A : Int)) := by rw [← hWa]; exact (Boxed.new w2 _ _).alloc _
      have x2 : Boxed Wa (w2.heap.size + 1) 3 (.int .i64 (S : Int)) := by
        rw [← hWa]
        have := Boxed.new (w2.alloc (.cells #[.int .i64 (A : Int)] 3)) 3 (.int .i64 (S : Int))
        rwa [World.size_alloc] at this
      rw [hWa]
      clear hWa
      have d1 := ((Boxed.new Wa 30 (.slice (some ⟨b, 0, none⟩) N c)).alloc (.cells #[.int .i64 (A : Int)] 3)).alloc (.cells #[.int .i64 (S : Int)] 3)
      have d2 := (Boxed.new (Wa.alloc (.cells #[.slice (some ⟨b, 0, none⟩) N c] 30)) 3 (.int .i64 (A : Int))).alloc (.cells #[.int .i64 (S : Int)] 3)
      have d3 := Boxed.new ((Wa.alloc (.cells #[.slice (some ⟨b, 0, none⟩) N c] 30)).alloc (.cells #[.int .i64 (A : Int)] 3)) 3 (.int .i64 (S : Int))
      simp only [World.size_alloc] at d2 d3
      have b3 : Below Wa.heap.size Wa (((Wa.alloc (.cells #[.slice (some ⟨b, 0, none⟩) N c] 30)).alloc (.cells #[.int .i64 (A : Int)] 3)).alloc (.cells #[.int .i64 (S : Int)] 3)) := (((Below.refl Wa.heap.size Wa).alloc (Nat.le_refl _) _).alloc (by simp) _).alloc (by simp; omega) _
      rintro e W1 ⟨rfl, hW1⟩
      rw [← hW1] at d1 d2 d3 b3
      have x1 := x1.kept (grown_of_below b3 none) (by simp)
      have x2 := x2.kept (grown_of_below b3 none) (by simp)
      have BW := chain ba b3
      have bl2 : b < w2.heap.size := HA.out.lt (by omega)
      have fl2 : fb < w2.heap.size := HI.out.lt (by omega)
      have hA3 := HA.out.below BW bl2
      have hI3 := HI.out.below BW fl2
      have hS3 := HS.out.kept (grown_of_below BW none) (by simp)
      have hV3 := HV.out.kept (grown_of_below BW none) (by simp)
      have hG3 := grown_trans HG.out (grown_of_below BW _)
      have hM3 := HM.out.below BW
      have hml : ∀ D ∈ ms, D < w2.heap.size := fun D hD => (Array.getElem?_eq_some_iff.1 (HM.out.2 D hD).2).1
      have sw0 := HG.out.size
      have sw2 := ba.size
      have sw3 := b3.size
      clear hW1 HA HI HS HV HG HM b3 ba
      gi_wp2
      refine rangeN (gf := 101) (lb := #[.pointer (some ⟨Wa.heap.size, 0, none⟩), .pointer (some ⟨Wa.heap.size + 1, 0, none⟩), .pointer (some ⟨Wa.heap.size + 2, 0, none⟩)]) rfl (enters_of Tryz.func101 (by kernel_rfl) rfl)
        (rows_seq b N c A S fit.1 hNc fit.2.1 fit.2.2 11 (by decide) Wa.heap.size _ _ _ (Nat.le_refl _) (by omega) (by omega) W1 d1 d2 d3) kpA_t kpA_l (fun _ => rfl)
        (fun pre V => (Arr V .u8 b R (layR A S (srcF A S F) h0 pre) ∧ Ints V .u8 fb fo N F ∧ SpotAt V (w.heap.size + 1) n g a ∧ Boxed V w.heap.size 30 (.slice (some ⟨fb, fo, none⟩) N d) ∧ w.grownBy V (some b)) ∧ Boxed V w2.heap.size 3 (.int .i64 (A : Int)) ∧ Boxed V (w2.heap.size + 1) 3 (.int .i64 (S : Int)) ∧ MarksOk w.heap.size ms V)
        (fun c pre V => False)
        (OwnFrom.and (OwnFrom.and (own_arr (by omega) (layR A S (srcF A S F) h0)) (OwnFrom.and (own_ints (by omega) F) (OwnFrom.and (own_spot _ _ _ _) (OwnFrom.and (Own.from (boxed_own _ _ (fun _ => _)) _) (own_grown (some b) (by omega)))))) (OwnFrom.and (Own.from (boxed_own _ _ (fun _ => _)) _) (OwnFrom.and (Own.from (boxed_own _ _ (fun _ => _)) _) (own_marks (fun D hD => by have := hml D hD; omega)))))
        (fun c => fun s A C row h hg hr => h.elim)
        ⟨⟨hA3, hI3, hS3, hV3, hG3⟩, x1, x2, hM3⟩
        (fun x a' V => a' = { tmps := #[.slice (some ⟨b, 0, none⟩) N c, .slice (some ⟨fb, fo, none⟩) N d, .agg #[.int .i64 n, .int .i64 g, .int .i64 a], undef, .pointer (some ⟨w.heap.size, 0, none⟩), .pointer (some ⟨w.heap.size + 1, 0, none⟩), .int .i64 0, .int .i64 (N : Int), .int .i64 0, .int .i64 ((k : Int) + 1), .pointer (some ⟨w2.heap.size, 0, none⟩), .pointer (some ⟨w2.heap.size + 1, 0, none⟩), .int .i64 0, .int .i64 (x.val : Int), .slice (some ⟨b, A + x.val * S, none⟩) 8 (c - (A + x.val * S)), .tuple #[.int .i64 (N : Int), .int .i64 0], .agg #[.int .i64 n, .int .i64 g, .int .i64 a], .tuple #[.int .i64 (N : Int), .int .i64 0], .int .i64 (N : Int), .int .i64 0, .bool false, .int .i64 0, .bool false, undef, .bool false, .slice (some ⟨b, 0, none⟩) N c, .int .i64 (N : Int), .int .i64 (N : Int), .bool false, .bool false, .slice (some ⟨fb, fo, none⟩) N d, .int .i64 (N : Int), .int .i64 (N : Int), .bool false, .bool false, .int .i64 ((k : Int) + 1), .bool true, u37, u38, .tuple #[.int .i64 (A : Int), .int .i64 (S : Int), .int .i64 0], .pointer (some ⟨w.heap.size + 1, 0, none⟩), .int .i64 n, .pointer (some ⟨w.heap.size + 1, 1, none⟩), .int .i64 g, .pointer (some ⟨w.heap.size + 1, 2, none⟩), .int .i64 a, .int .i64 ((k : Int) + 1), .tuple #[.int .i64 (A : Int), .int .i64 (S : Int), .int .i64 0], .int .i64 (A : Int), .int .i64 (S : Int), .int .i64 0, .slice (some ⟨b, 0, none⟩) N c, .int .i64 (A : Int), .int .i64 (S : Int), .func (.func 101) #[] #[.pointer (some ⟨Wa.heap.size, 0, none⟩), .pointer (some ⟨Wa.heap.size + 1, 0, none⟩), .pointer (some ⟨Wa.heap.size + 2, 0, none⟩)], .int .i64 (x.val : Int), .slice (some ⟨b, A + x.val * S, none⟩) 8 (c - (A + x.val * S)), u57, u58, u59, u60, u61, u62, u63, u64, u65, u66, u67, u68, u69, u70, u71], defers := [] })
        (fun x a' => fun s A C row h hg hr => h)
        ?assign ?body ?done ?stop
      case assign =>
        rintro l pre x V K sV hl h1 hK
        dsimp only [encR]
        gi_wp2
        exact hK _ _ (KeepsFrom.refl _ _) (kpA_refl V) h1 rfl
      case body =>
        rintro l pre x a' V hl ⟨r, hr⟩ ⟨⟨h1, h2, h3, h4, h5⟩, h6, h7, h8⟩ rfl hlt
        have xb := x.isLt
        obtain ⟨y, hy⟩ : ∃ y : Nat, x.val = y := ⟨_, rfl⟩
        obtain ⟨q, hq⟩ : ∃ q : Nat, y * S = q := ⟨_, rfl⟩
        obtain ⟨o, ho⟩ : ∃ o : Nat, A + q = o := ⟨_, rfl⟩
        have hyS : y * S ≤ 7 * S := Nat.mul_le_mul_right S (by omega)
        rw [hq] at hyS
        have ob : o + 8 ≤ N := by omega
        have c4 := h4.cell
        have c6 := h6.cell
        have c7 := h7.cell
        have hqI : (y : Int) * (S : Int) = (q : Int) := by rw [← hq]; push_cast; rfl
        have sl := fun W => slice_row fb fo N d o ob hNd W
        have src : ∀ j, j < 8 → V.cell? ((⟨fb, fo + o, none⟩ : Addr).add j) = some (.int .u8 (F (o + j))) := fun j hj => by
          have := h2 (o + j) (by omega)
          rw [← Nat.add_assoc] at this
          rw [Addr.add_lit]
          exact this
        have SRC := Lib.hid src
        have HA := Lib.hid h1
        have HI := Lib.hid h2
        have HS := Lib.hid h3
        have HV := Lib.hid h4
        have HG := Lib.hid h5
        have H6 := Lib.hid h6
        have H7 := Lib.hid h7
        have H8 := Lib.hid h8
        have LR : Hid (layR A S (srcF A S F) h0 (pre ++ [x]) = fun i => if o ≤ i ∧ i < o + 8 then F (o + (i - o)) else layR A S (srcF A S F) h0 pre i) := Lib.hid (by
          rw [layR_snoc]
          funext i
          unfold putRow
          rw [hy, hq, ho]
          by_cases hr : o ≤ i ∧ i < o + 8
          · rw [if_pos hr, if_pos hr]
            unfold srcF
            rw [show (8 * y + (i - o)) / 8 = y by omega, show (8 * y + (i - o)) % 8 = i - o by omega, hq, ho]
          · rw [if_neg hr, if_neg hr])
        rw [hy] at xb
        rw [hy, hq, ho]
        have hoI : (A : Int) + (q : Int) = (o : Int) := by omega
        have bo : (o : Int) + 8 ≤ 1000000 := by omega
        have bq : (q : Int) ≤ 3000 := by omega
        have e1 : IntKind.i64.wrap ((y : Int) * (S : Int)) = (q : Int) := by rw [hqI]; exact IntWalk.i64_in _ (by omega)
        have e2 : IntKind.i64.wrap ((A : Int) + (q : Int)) = (o : Int) := by rw [hoI]; exact IntWalk.i64_in _ (by omega)
        have e3 : IntKind.i64.wrap ((o : Int) + 8) = (o : Int) + 8 := IntWalk.i64_in _ (by omega)
        clear src h1 h2 h3 h4 h5 h6 h7 h8 hy hq ho hyS hr hqI
        gi_wp2_with (refine wpListIn_copy_arr rfl (.tmp 57) (.tmp 70) 30 30 rfl 5 Tryz.underlying30 size_byte b R o 8 _ _ (layR A S (srcF A S F) h0 pre) (fun j => F (o + j)) ⟨fb, fo + o, none⟩ rfl rfl HA.out (by omega) SRC.out ?_; intro V' hA' hG')
        have a1 : Arr V' .u8 b R (layR A S (srcF A S F) h0 (pre ++ [x])) := by rw [LR.out]; exact hA'.out
        clear e1 e2 e3
        exact ⟨KeepsFrom.of_grownBy hG'.out (fun j e => by cases e; omega), kpA_grown hG'.out (by omega), ⟨a1, HI.out.grown hG'.out (fun e => hne (Option.some.inj e)), HS.out.kept hG'.out (fun e => by have := Option.some.inj e; omega), HV.out.kept hG'.out (fun e => by have := Option.some.inj e; omega), grown_trans HG.out hG'.out⟩, H6.out.kept hG'.out (fun e => by have := Option.some.inj e; omega), H7.out.kept hG'.out (fun e => by have := Option.some.inj e; omega), ⟨H8.out.1, fun D hD => ⟨(H8.out.2 D hD).1, (hG'.out.block D (Array.getElem?_eq_some_iff.1 (H8.out.2 D hD).2).1 (fun e => by have := (H8.out.2 D hD).1; have := Option.some.inj e; omega)).trans (H8.out.2 D hD).2⟩⟩⟩
      case stop =>
        rintro Dd c pre V hD hSp h hK
        exact h.elim
      case done =>
        rintro Dd ys V hD rfl ⟨⟨h1, h2, h3, h4, h5⟩, _, _, h8⟩ hK
        have hA' : Arr V .u8 b R (copF n g a F f (k + 1)) := by rw [EN.out, ← layR_all]; exact h1
        have hM' : MarksOk w.heap.size (Dd :: ms) V := ⟨List.nodup_cons.2 ⟨fun e => by have := hml Dd e; omega, h8.1⟩, fun D hD => by
          rcases List.mem_cons.1 hD with rfl | h
          · exact ⟨by omega, hK⟩
          · exact h8.2 D h⟩
        have AL := Lib.hid (show CopI w b N R fb fo d n g a F f (k + 1) V ∧ MarksOk w.heap.size (Dd :: ms) V from ⟨⟨hA', h2, h3, h4, h5⟩, hM'⟩)
        clear h1 h2 h3 h4 h5 h8 hK hA' hM'
        gi_wp2
        refine ⟨⟨k + 1, Dd :: ms, _, _, _, _, _, _, _, _, _, _, _, _, _, _, _, _, _, _, _, _, _, _, _, _, _, _, _, _, _, _, _, _, _, _, _, _, _, _, _, _, _, _, by omega, rfl, AL.out⟩, ?_⟩
        simp [intOf]
        omega
    · have hA6 : Arr V .u8 b R (copF n g a F f 6) := by
        obtain rfl : k = 6 := by omega
        exact h1
      have hk' : 6 ≤ k := by omega
      have AL := Lib.hid (And.intro hA6 h5)
      have HM := Lib.hid hmk
      clear h1 h2 h3 h4 h5 hmk hA6
      gi_wp2
      refine leaves_marks (Inv := fun V => Arr V .u8 b R (copF n g a F f 6) ∧ w.grownBy V (some b)) (B := w.heap.size) (fun V D h hB hD => ?_) (fun V' h => ?_) ms V HM.out AL.out
      · have gp := grownBy_putObj' V D (.deferred none)
        exact ⟨h.1.grown gp (fun e => by have := Option.some.inj e; omega), own_grown (β := Unit) (some b) (Nat.le_refl w.heap.size) () V _ (some D) h.2 gp (fun r e => by cases e; exact ⟨hB, _, hD, rfl⟩)⟩
      · exact ⟨_, results_tmp rfl _ _ _, rfl, h.1, h.2⟩
end Pa
end Go.Proofs.YtbmglemjfodfhaaGreat
