/- The document's code of a pair, Short, Put. -/
import Derived.Test.YteigdcbaojmfgaaDoorChD
import Derived.Test.YteigdcbaojmfgaaDoorCfR
namespace Go.Proofs.YteigdcbaojmfgaaDoor
open Go.RowKit
set_option linter.unusedSimpArgs false
set_option linter.unusedVariables false
namespace Cf
section
set_option maxRecDepth 100000
set_option maxHeartbeats 4000000
set_option linter.unusedVariables false
theorem Two.cells {B : Nat} {W : World} {g1 c1 g2 c2 : Nat} (h : Two B W (.slice (some ⟨g1, 0, none⟩) 63 c1) (.slice (some ⟨g2, 0, none⟩) 63 c2) (tab false)) {k : Nat} (hk : k < 63) :
    W.cell? ⟨g1, k * 2, none⟩ = some (.int .i64 ((tab false).getD k ⟨0, 0, []⟩).run) ∧ W.cell? ⟨g1, k * 2 + 1, none⟩ = some (.int .i64 ((tab false).getD k ⟨0, 0, []⟩).lvl) ∧ W.cell? ⟨g2, k, none⟩ = some (sv (cs ((tab false).getD k ⟨0, 0, []⟩).code)) := by
  have hl := tab_len false
  have hp := h.p
  have hc := h.c
  rw [hl] at hp hc
  have hk2 : k < (tab false).length := by omega
  have e : (tab false).getD k ⟨0, 0, []⟩ = (tab false)[k] := by rw [List.getD_eq_getElem?_getD, List.getElem?_eq_getElem hk2]; rfl
  have h1 := pairC_get (tab false) k hk2
  have h2 := codeC_get (tab false) k hk2
  rw [e]
  exact ⟨by rw [hp.cellAt _ (by omega), Nat.mul_comm]; exact h1.1, by rw [hp.cellAt _ (by omega), Nat.mul_comm]; exact h1.2, by rw [hc.cellAt _ (by omega)]; exact h2⟩
theorem find_at {xs : List Ent} {m : Ent → Bool} {k : Nat} (hk : k < xs.length) (hn : ∀ j, j < k → m (xs.getD j ⟨0, 0, []⟩) = false) (hm : m (xs.getD k ⟨0, 0, []⟩) = true) : xs.find? m = some (xs.getD k ⟨0, 0, []⟩) := by
  have hg : xs.getD k ⟨0, 0, []⟩ = xs[k] := by rw [List.getD_eq_getElem?_getD, List.getElem?_eq_getElem hk]; rfl
  rw [List.find?_eq_some_iff_getElem]
  refine ⟨hm, k, hk, hg.symm, fun j hj => ?_⟩
  have := hn j hj
  rw [List.getD_eq_getElem?_getD, List.getElem?_eq_getElem (by omega)] at this
  simpa using this
theorem find_no {xs : List Ent} {m : Ent → Bool} (hn : ∀ j, j < xs.length → m (xs.getD j ⟨0, 0, []⟩) = false) : xs.find? m = none := by
  rw [List.find?_eq_none]
  intro x hx
  obtain ⟨j, hj, rfl⟩ := List.mem_iff_getElem.1 hx
  have := hn j hj
  rw [List.getD_eq_getElem?_getD, List.getElem?_eq_getElem hj] at this
  simpa using this
theorem wrap64_i64 (x : Int) : IntKind.i64.wrap x = wrap64 x := by
  have e1 : ((2 : Int) ^ IntKind.i64.bits) = 18446744073709551616 := rfl
  have e2 : ((2 : Int) ^ (IntKind.i64.bits - 1)) = 9223372036854775808 := rfl
  have e3 : IntKind.i64.signed = true := rfl
  unfold wrap64
  simp only [IntKind.wrap, e1, e2, e3, Bool.true_and, decide_eq_true_eq]
  split <;> omega
theorem rcode_any (r l : Int) (w : World) : Calls Tryd.prog 43 #[prV r l] w fun e w' => e = .returned (sv (shortL false r l)) ∧ Below w.heap.size w w' := by
  have HC := Lib.hid (fun W => Coded_any W)
  have hn := heap_alloc_new w (.cells #[.int .i64 r, .int .i64 l] 26)
  have B0 := Lib.hid ((Below.refl w.heap.size w).alloc (Nat.le_refl _) (.cells #[.int .i64 r, .int .i64 l] 26))
  have P0 : Hid ((w.alloc (.cells #[.int .i64 r, .int .i64 l] 26)).cell? ⟨w.heap.size, 0, none⟩ = some (.int .i64 r) ∧ (w.alloc (.cells #[.int .i64 r, .int .i64 l] 26)).cell? ⟨w.heap.size, 1, none⟩ = some (.int .i64 l)) := Lib.hid ⟨by rw [cell_of_row _ _ 0 _ _ (0, 0) hn]; rfl, by rw [cell_of_row _ _ 1 _ _ (0, 0) hn]; rfl⟩
  have HL := Lib.hid (World.size_alloc w (.cells #[.int .i64 r, .int .i64 l] 26))
  clear hn
  unfold prV
  go_enter Tryd.func43, Tryd.ntmps43
  go_wp2_with (go_at_call 35; refine (HC.out _).mono ?_; rintro e w1 ⟨g1, c1, g2, c2, rfl, h2, hb⟩; have T := Lib.hid h2; have B1 := Lib.hid (chain B0.out hb); have P1 := Lib.hid (And.intro ((hb.cell (World.block_lt_of_cell? _ _ P0.out.1)).trans P0.out.1) ((hb.cell (World.block_lt_of_cell? _ _ P0.out.2)).trans P0.out.2)); clear h2 hb)
  go_loopw [5] (fun i wr => ∃ k : Nat, k ≤ 63 ∧ i = .int .i64 k ∧ Hid (∀ j, j < k → isE r l ((tab false).getD j ⟨0, 0, []⟩) = false) ∧ Hid (Below w1.heap.size w1 wr)) (fun i _ => 63 - (intOf i).toNat)
  case atStart => exact ⟨0, by omega, rfl, Lib.hid (fun j h => by omega), Lib.hid (Below.refl _ _)⟩
  case round =>
    obtain ⟨k, hk, rfl, HN, HB⟩ := hrel
    by_cases hk63 : k < 63
    · have t1 : (k : Int) < 63 := by omega
      have t0 : (0 : Int) ≤ (k : Int) := by omega
      have cc := T.out.cells hk63
      have hB := HB.out
      have p0 := (hB.cell (World.block_lt_of_cell? _ _ P1.out.1)).trans P1.out.1
      have p1 := (hB.cell (World.block_lt_of_cell? _ _ P1.out.2)).trans P1.out.2
      have q0 := (hB.cell (World.block_lt_of_cell? _ _ cc.1)).trans cc.1
      have q1 := (hB.cell (World.block_lt_of_cell? _ _ cc.2.1)).trans cc.2.1
      have q2 := (hB.cell (World.block_lt_of_cell? _ _ cc.2.2)).trans cc.2.2
      have HV := Lib.hid (rfl : isE r l ((tab false).getD k ⟨0, 0, []⟩) = isE r l ((tab false).getD k ⟨0, 0, []⟩))
      obtain ⟨t, ht⟩ : ∃ t, (tab false).getD k ⟨0, 0, []⟩ = t := ⟨_, rfl⟩
      rw [ht] at q0 q1 q2
      have HTT := Lib.hid ht
      obtain ⟨X, hX⟩ : ∃ X : Int, (t.run : Int) = X := ⟨_, rfl⟩
      obtain ⟨Y, hY⟩ : ∃ X : Int, (t.lvl : Int) = X := ⟨_, rfl⟩
      obtain ⟨m, hm⟩ : ∃ m, wrap64 (-l) = m := ⟨_, rfl⟩
      have HIV : Hid (isE r l t = (decide (X = r) && (decide (Y = l) || decide (Y = m)))) := Lib.hid (by unfold isE; rw [hX, hY, hm])
      rw [hX] at q0
      rw [hY] at q1
      obtain ⟨C, hC⟩ : ∃ C : ByteArray, sv (cs t.code) = .string C := ⟨_, rfl⟩
      rw [hC] at q2
      have HCC := Lib.hid hC
      have hm2 : IntKind.i64.wrap (-l) = m := (wrap64_i64 _).trans hm
      clear cc hB ht hX hY hC
      have hit : isE r l t = true → Hid (sv (shortL false r l) = .string C) := fun e => Lib.hid (by
        rw [← HCC.out, ← HTT.out]
        unfold shortL shortX
        rw [find_at (by rw [tab_len]; exact hk63) HN.out (by rw [HTT.out]; exact e)])
      have skip : isE r l t = false → Hid (∀ j, j < k + 1 → isE r l ((tab false).getD j ⟨0, 0, []⟩) = false) := fun e => Lib.hid (fun j hj => by
        by_cases h : j < k
        · exact HN.out j h
        · obtain rfl : j = k := by omega
          rw [HTT.out]; exact e)
      have HIT := Lib.hid hit
      have SKIP := Lib.hid skip
      clear hit skip
      by_cases e1 : X = r
      · subst e1
        by_cases e2 : Y = l
        · subst e2
          have G := HIT.out (by rw [HIV.out]; simp)
          go_wp2_with fail
          go_quiet (fail)
          go_wp2_with fail
          go_ret
          exact ⟨congrArg Ending.returned G.out.symm, below_drewN (chain B1.out HB.out) _⟩
        · have t2 : (Y == l) = false := by simp [e2]
          by_cases e3 : Y = m
          · have t3 : (Y == m) = true := by simp [e3]
            have G := HIT.out (by rw [HIV.out]; simp [e3])
            clear e2 e3
            go_wp2_with fail
            go_quiet (fail)
            go_wp2_with fail
            go_ret
            exact ⟨congrArg Ending.returned G.out.symm, below_drewN (chain B1.out HB.out) _⟩
          · have t3 : (Y == m) = false := by simp [e3]
            have G := SKIP.out (by rw [HIV.out]; simp [e2, e3])
            go_wp2_with fail
            go_quiet (fail)
            go_wp2_with fail
            go_roundw
            case rel => exact ⟨k + 1, by omega, by go_num, G, Lib.hid (below_drewN HB.out _)⟩
            case measure => simp [intOf]; omega
      · have t1 : (X == r) = false := by simp [e1]
        have G := SKIP.out (by rw [HIV.out]; simp [e1])
        go_wp2_with fail
        go_quiet (fail)
        go_wp2_with fail
        go_roundw
        case rel => exact ⟨k + 1, by omega, by go_num, G, Lib.hid (below_drewN HB.out _)⟩
        case measure => simp [intOf]; omega
    · obtain rfl : k = 63 := by omega
      have G : Hid (sv (shortL false r l) = .string ⟨#[]⟩) := Lib.hid (by
        unfold shortL shortX
        rw [find_no (fun j hj => HN.out j (by rw [tab_len] at hj; exact hj))]
        rfl)
      go_wp2_with fail
      go_ret
      exact ⟨congrArg Ending.returned G.out.symm, chain B1.out HB.out⟩
theorem rShort_any (r l : Int) (w : World) : Calls Tryd.prog 22 #[prV r l] w fun e w' => e = .returned (.bool (shortL false r l != [])) ∧ Below w.heap.size w w' := by
  have HS := Lib.hid (fun W => rcode_any r l W)
  have B0 := Lib.hid ((Below.refl w.heap.size w).alloc (Nat.le_refl _) (.cells #[.int .i64 r, .int .i64 l] 26))
  generalize shortL false r l = x at HS ⊢
  unfold prV sv at HS
  unfold prV
  by_cases hx : x = []
  · subst hx
    go_enter Tryd.func22, Tryd.ntmps22
    go_wp2_with (go_at_call 43; refine (HS.out _).mono ?_; rintro e w1 ⟨rfl, hB⟩; have P1 := Lib.hid (chain B0.out hB); clear hB)
    go_ret
    exact ⟨rfl, P1.out⟩
  · have he : (⟨x.toArray⟩ : ByteArray).toList.isEmpty = false := by rw [ByteArray.toList_mk]; cases x with | nil => exact absurd rfl hx | cons _ _ => rfl
    have HX := Lib.hid hx
    obtain ⟨S, hS⟩ : ∃ S : ByteArray, (⟨x.toArray⟩ : ByteArray) = S := ⟨_, rfl⟩
    rw [hS] at HS he
    clear hx hS
    go_enter Tryd.func22, Tryd.ntmps22
    go_wp2_with (go_at_call 43; refine (HS.out _).mono ?_; rintro e w1 ⟨rfl, hB⟩; have P1 := Lib.hid (chain B0.out hB); clear hB)
    go_ret
    exact ⟨by simp [HX.out], P1.out⟩
end
end Cf
end Go.Proofs.YteigdcbaojmfgaaDoor
