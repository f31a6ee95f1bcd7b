/- coeff.table: the iterator, for every body. -/
import Derived.Test.YtpibeocngkjolaaGreatDoorMgCfT
import Derived.LoopIn
import Derived.LoopNIn
set_option linter.unusedVariables false
set_option linter.unusedSimpArgs false

namespace Go.Proofs.YtpibeocngkjolaaGreatDoor
open Go.RowKit Go.Shelf
attribute [local go_sem] Oper.semAt_some
set_option linter.unusedSimpArgs false
set_option linter.unusedVariables false
namespace Cf
section
set_option maxRecDepth 100000
set_option maxHeartbeats 4000000
set_option linter.unusedVariables false
def fldA (k : Nat) : Array Value := ((rowN k).map fun c => sv (cs c)).toArray
theorem fldA_get (k i : Nat) (hi : i < (rowN k).length) : (fldA k)[i]? = some (sv (cs ((rowN k).getD i []))) := by simp [fldA, hi]
theorem rowsA_get (k : Nat) (hk : k < 27) : rowsA[k]? = some (sv (rowS k)) := by simp [rowsA, hk]
theorem cell_row {w : World} {b : Nat} {cs : Array Value} {t : TypeId} {fz : Nat × Nat} (h : w.heap[b]? = some (.cells cs t fz)) {i : Nat} {v : Value} (hi : cs[i]? = some v) : w.cell? ⟨b, i, none⟩ = some v := by
  simp only [World.cell?, h]
  exact hi
theorem row_small (k : Nat) (hk : k < 27) : (⟨(rowS k).toArray⟩ : ByteArray).size < 4294967281 := by
  have := (rowS_small k hk).1
  show (rowS k).toArray.size < _
  simp
  omega
theorem row_ascii (k : Nat) (hk : k < 27) : ∀ (j : Nat) b, (⟨(rowS k).toArray⟩ : ByteArray).data.toList[j]? = some b → b.toNat < 128 := fun j b hb => by
  have : b ∈ rowS k := List.mem_of_getElem? (by simpa using hb)
  exact (rowS_small k hk).2 b this
theorem table1_in (first : Bool) (mm : Nat) (hm : 1 ≤ mm) (l Bl : Nat) (hl : Bl ≠ l) (J Jx : List Ent → World → Prop) (W : World) (hlW : l < W.heap.size) (hBW : Bl < W.heap.size)
    (hJo : ∀ pre A C, J pre A → A.grownBy C none → J pre C)
    (hY : ∀ pre x W1, J pre W1 → pre.length < (tab first).length → YieldAt Fence.wide (mm - 1) Tryz.prog l (encT x) W1 fun e W' =>
      (e = .returned (.bool true) ∧ J (pre ++ [x]) W' ∧ KpT Bl l W1 W') ∨ (e = .returned (.bool false) ∧ Jx (pre ++ [x]) W' ∧ KpT Bl l W1 W'))
    (h0 : J [] W) (h1 : Boxed W Bl 4 (.bool first)) (hT : Tabs W) :
    CallsIn Fence.wide mm Tryz.prog 109 #[.func (.yield l) #[] #[], .pointer (some ⟨Bl, 0, none⟩)] W fun e W' => (∃ v, e = .returned v) ∧
      ((∃ ys, ys = tab first ∧ J ys W') ∨ (∃ pre, pre <+: tab first ∧ Jx pre W')) := by
  have HY := Lib.hid hY
  have HJO := Lib.hid hJo
  have H0 := Lib.hid h0
  have H1 := Lib.hid h1
  have HT := Lib.hid hT
  clear hY hJo h0 h1 hT
  refine callsIn_of_wp Tryz.func109 rfl trivial ?_ rfl
  simp only [Tryz.ntmps109, List.size_toArray, List.length_cons, List.length_nil, Nat.reduceAdd, Nat.reduceSub, Array.replicate_succ, Array.replicate_zero, List.push_toArray, List.append_toArray, List.nil_append, List.cons_append]
  gi_wp2_with (refine ⟨trivial, ?_⟩; gi_at_call 110; refine (callsIn_wide.2 (rows_any _)).mono ?_; rintro e w1 ⟨rfl, rfl⟩)
  have b0 := (Below.refl W.heap.size W).alloc (Nat.le_refl _) (.cells rowsA 9)
  have J0 := Lib.hid (HJO.out _ _ _ H0.out (grown_of_below b0 none))
  have B0 := Lib.hid (H1.out.kept (grown_of_below b0 none) (by simp))
  have T0 := Lib.hid (HT.out.below b0)
  have R0 : Hid ((W.alloc (.cells rowsA 9)).heap[W.heap.size]? = some (.cells rowsA 9 (0, 0))) := Lib.hid (World.alloc_heap_new W _)
  have z0 : W.heap.size < (W.alloc (.cells rowsA 9)).heap.size := by simp
  generalize W.alloc (.cells rowsA 9) = W0 at *
  clear b0 H0 H1 HT
  gi_loopw [9] (fun i wr => ∃ k : Nat, k ≤ 27 ∧ i = .int .i64 k ∧ Hid (J (tabU first k) wr) ∧ Hid (Boxed wr Bl 4 (.bool first)) ∧ Hid (Tabs wr) ∧ Hid (wr.heap[W.heap.size]? = some (.cells rowsA 9 (0, 0))))
    (fun i _ => 27 - (intOf i).toNat)
  case atStart => exact ⟨0, by omega, rfl, J0, B0, T0, R0⟩
  case round =>
    obtain ⟨k, hk, rfl, JK, BK, TK, RK⟩ := hrel
    by_cases hk27 : k < 27
    · have kb : (0 : Int) ≤ (k : Int) ∧ (k : Int) < 27 := by omega
      have c0 := cell_row RK.out (rowsA_get k hk27)
      have FL := Tryz.strings_Fields ⟨(rowS k).toArray⟩ wr (row_small k hk27) (row_ascii k hk27) TK.out.sp
      have hfl : Lib.fields (⟨(rowS k).toArray⟩ : ByteArray).data.toList = (rowN k).map cs := by
        rw [show (⟨(rowS k).toArray⟩ : ByteArray).data.toList = rowS k by simp, fields_row k hk27]
      rw [hfl, List.length_map, List.map_map] at FL
      have HFL : Hid (Calls Tryz.prog 111 #[.string ⟨(rowS k).toArray⟩] wr fun e w' => e = .returned (.slice (some ⟨wr.heap.size, 0, none⟩) (rowN k).length (rowN k).length) ∧ w' = wr.alloc (.cells (fldA k) 9)) := Lib.hid FL
      have hn15 := rowN_small k hk27
      obtain ⟨n, hn⟩ : ∃ n, (rowN k).length = n := ⟨_, rfl⟩
      rw [hn] at HFL hn15
      have HN := Lib.hid hn
      have HGET := Lib.hid (fun i hi => fldA_get k i hi)
      have HTK := Lib.hid (fun i hi => rowEnt_take first k (rowN k) i hi)
      have HPR := Lib.hid (fun i => tabU_tab first k i hk27)
      have HLT := Lib.hid (fun i hi => tabU_lt first k i hk27 hi)
      have HFU := Lib.hid (show (rowEnt first k (rowN k)).take n = rowEnt first k (rowN k) from List.take_of_length_le (by rw [rowEnt_len, hn]; exact Nat.le_refl _))
      have zr := RK.out
      have zR : W.heap.size < wr.heap.size := (Array.getElem?_eq_some_iff.1 zr).1
      unfold sv at c0
      obtain ⟨RS, hRS⟩ : ∃ s : ByteArray, (⟨(rowS k).toArray⟩ : ByteArray) = s := ⟨_, rfl⟩
      rw [hRS] at c0 HFL
      clear FL hfl hn zr hRS
      gi_wp2_with (refine ⟨trivial, ?_⟩; gi_at_call 111; refine (callsIn_wide.2 HFL.out).mono ?_; rintro e w1 ⟨rfl, rfl⟩)
      have b1 := (Below.refl wr.heap.size wr).alloc (Nat.le_refl _) (.cells (fldA k) 9)
      have J1 := Lib.hid (HJO.out _ _ _ JK.out (grown_of_below b1 none))
      have B1 := Lib.hid (BK.out.kept (grown_of_below b1 none) (by simp))
      have T1 := Lib.hid (TK.out.below b1)
      have R1 := Lib.hid ((b1.block _ zR).trans RK.out)
      have F1 : Hid ((wr.alloc (.cells (fldA k) 9)).heap[wr.heap.size]? = some (.cells (fldA k) 9 (0, 0))) := Lib.hid (World.alloc_heap_new wr _)
      have z1 : wr.heap.size < (wr.alloc (.cells (fldA k) 9)).heap.size := by simp
      generalize wr.alloc (.cells (fldA k) 9) = W1 at *
      clear b1 c0 JK BK TK RK HFL
      obtain ⟨FB, hFB⟩ : ∃ n, wr.heap.size = n := ⟨_, rfl⟩
      rw [hFB] at F1 z1 zR
      rw [hFB]
      clear hFB
      gi_loopw [17] (fun i wr => ∃ j : Nat, j ≤ n ∧ i = .int .i64 j ∧ Hid (J (tabU first k ++ (rowEnt first k (rowN k)).take j) wr) ∧ Hid (Boxed wr Bl 4 (.bool first)) ∧ Hid (Tabs wr) ∧ Hid (wr.heap[W.heap.size]? = some (.cells rowsA 9 (0, 0))) ∧ Hid (wr.heap[FB]? = some (.cells (fldA k) 9 (0, 0))))
        (fun i _ => n - (intOf i).toNat)
      case atStart => exact ⟨0, by omega, rfl, by rw [List.take_zero, List.append_nil]; exact J1, B1, T1, R1, F1⟩
      case round =>
        obtain ⟨j, hj, rfl, JJ, BJ, TJ, RJ, FJ⟩ := hrel
        by_cases hjn : j < n
        · have jb : (0 : Int) ≤ (j : Int) ∧ (j : Int) < (n : Int) := by omega
          have ej : IntKind.i64.wrap ((j : Int) + 1) = (j : Int) + 1 := IntWalk.i64_in _ (by omega)
          have hjl : j < (rowN k).length := by rw [HN.out]; exact hjn
          have c1 := cell_row FJ.out (HGET.out j hjl)
          have c2 := BJ.out.cell
          obtain ⟨x, hx⟩ : ∃ x : Ent, (⟨k, j + 1, if first && k == 0 && j == 0 then [true] else (rowN k).getD j []⟩ : Ent) = x := ⟨_, rfl⟩
          have hy0 := HY.out _ x wr JJ.out (HLT.out j hjl)
          obtain ⟨fn, tmps, assign, body, hy, _, hR⟩ := yield_wide (r := 0) (m' := mm - 1) hy0
          have HNX := Lib.hid (HTK.out j hjl)
          rw [hx] at HNX
          dsimp only [encT] at hy
          have hx1 : (x.run : Int) = (k : Int) := by rw [← hx]
          have hx2 : (x.lvl : Int) = (j : Int) + 1 := by rw [← hx]; rfl
          have hx3 : x.code = if first && k == 0 && j == 0 then [true] else (rowN k).getD j [] := by rw [← hx]
          rw [hx1, hx2, hx3] at hy
          clear hx hx1 hx2 hx3 hy0
          have FIN : Hid (∀ W3, J ((tabU first k ++ (rowEnt first k (rowN k)).take j) ++ [x]) W3 → KpT Bl l wr W3 → J (tabU first k ++ (rowEnt first k (rowN k)).take (j + 1)) W3 ∧ Boxed W3 Bl 4 (.bool first) ∧ Tabs W3 ∧ W3.heap[W.heap.size]? = some (.cells rowsA 9 (0, 0)) ∧ W3.heap[FB]? = some (.cells (fldA k) 9 (0, 0))) := Lib.hid (fun W3 h3 hK => by
            refine ⟨?_, ?_, hK.2.2 TJ.out, hK.2.1 _ (by omega) (by omega) _ RJ.out (noPair_of (by decide)), hK.2.1 _ (by omega) (by omega) _ FJ.out (noPair_of (by decide))⟩
            · rw [HNX.out, ← List.append_assoc]; exact h3
            · exact hK.2.1 _ (Nat.le_refl _) hl _ BJ.out (noPair_of (by decide)))
          have STO : Hid (∀ W3, Jx ((tabU first k ++ (rowEnt first k (rowN k)).take j) ++ [x]) W3 → ∃ pre, pre <+: tab first ∧ Jx pre W3) := Lib.hid (fun W3 h3 => ⟨tabU first k ++ (rowEnt first k (rowN k)).take (j + 1), HPR.out (j + 1), by rw [HNX.out, ← List.append_assoc]; exact h3⟩)
          unfold sv at c1 hy
          obtain ⟨S, hS⟩ : ∃ s : ByteArray, (⟨(cs ((rowN k).getD j [])).toArray⟩ : ByteArray) = s := ⟨_, rfl⟩
          rw [hS] at c1
          have HS := Lib.hid hS
          clear hS
          have cn : (false && k == 0 && j == 0) = false := by simp
          cases first with
          | false =>
            rw [if_neg (by simp), HS.out] at hy
            clear cn
            gi_wp2
            refine hR.mono ?_
            rintro e W3 (⟨rfl, hJ3, hK3⟩ | ⟨rfl, hJx3, hK3⟩)
            · obtain ⟨f1, f2, f3, f4, f5⟩ := FIN.out W3 hJ3 hK3
              have G1 := Lib.hid f1
              have G2 := Lib.hid f2
              have G3 := Lib.hid f3
              have G4 := Lib.hid f4
              have G5 := Lib.hid f5
              clear f1 f2 f3 f4 f5 hJ3 hK3 c1 c2
              gi_wp2
              go_roundw
              case rel => exact ⟨j + 1, by omega, by go_num, G1, G2, G3, G4, G5⟩
              case measure => simp [intOf]; omega
            · have S1 := Lib.hid (STO.out W3 hJx3)
              clear hJx3 hK3 c1 c2
              gi_wp2
              refine bodyPost_ret (results_none rfl _ _ _) rfl ?_
              exact ⟨⟨_, rfl⟩, .inr S1.out⟩
          | true =>
            by_cases hk0 : k = 0
            · have tk : ((k : Int) == 0) = true := by simp [hk0]
              by_cases hj0 : j = 0
              · have tj : ((j : Int) == 0) = true := by simp [hj0]
                rw [if_pos (by simp [hk0, hj0]), show (⟨(cs [true]).toArray⟩ : ByteArray) = ⟨#[49]⟩ from rfl] at hy
                clear cn hk0 hj0
                gi_wp2
                refine hR.mono ?_
                rintro e W3 (⟨rfl, hJ3, hK3⟩ | ⟨rfl, hJx3, hK3⟩)
                · obtain ⟨f1, f2, f3, f4, f5⟩ := FIN.out W3 hJ3 hK3
                  have G1 := Lib.hid f1
                  have G2 := Lib.hid f2
                  have G3 := Lib.hid f3
                  have G4 := Lib.hid f4
                  have G5 := Lib.hid f5
                  clear f1 f2 f3 f4 f5 hJ3 hK3 c1 c2
                  gi_wp2
                  go_roundw
                  case rel => exact ⟨j + 1, by omega, by go_num, G1, G2, G3, G4, G5⟩
                  case measure => simp [intOf]; omega
                · have S1 := Lib.hid (STO.out W3 hJx3)
                  clear hJx3 hK3 c1 c2
                  gi_wp2
                  refine bodyPost_ret (results_none rfl _ _ _) rfl ?_
                  exact ⟨⟨_, rfl⟩, .inr S1.out⟩
              · have tj : ((j : Int) == 0) = false := by simp [hj0]
                rw [if_neg (by simp [hj0]), HS.out] at hy
                clear cn hk0 hj0
                gi_wp2
                refine hR.mono ?_
                rintro e W3 (⟨rfl, hJ3, hK3⟩ | ⟨rfl, hJx3, hK3⟩)
                · obtain ⟨f1, f2, f3, f4, f5⟩ := FIN.out W3 hJ3 hK3
                  have G1 := Lib.hid f1
                  have G2 := Lib.hid f2
                  have G3 := Lib.hid f3
                  have G4 := Lib.hid f4
                  have G5 := Lib.hid f5
                  clear f1 f2 f3 f4 f5 hJ3 hK3 c1 c2
                  gi_wp2
                  go_roundw
                  case rel => exact ⟨j + 1, by omega, by go_num, G1, G2, G3, G4, G5⟩
                  case measure => simp [intOf]; omega
                · have S1 := Lib.hid (STO.out W3 hJx3)
                  clear hJx3 hK3 c1 c2
                  gi_wp2
                  refine bodyPost_ret (results_none rfl _ _ _) rfl ?_
                  exact ⟨⟨_, rfl⟩, .inr S1.out⟩
            · have tk : ((k : Int) == 0) = false := by simp [hk0]
              rw [if_neg (by simp [hk0]), HS.out] at hy
              clear cn hk0
              gi_wp2
              refine hR.mono ?_
              rintro e W3 (⟨rfl, hJ3, hK3⟩ | ⟨rfl, hJx3, hK3⟩)
              · obtain ⟨f1, f2, f3, f4, f5⟩ := FIN.out W3 hJ3 hK3
                have G1 := Lib.hid f1
                have G2 := Lib.hid f2
                have G3 := Lib.hid f3
                have G4 := Lib.hid f4
                have G5 := Lib.hid f5
                clear f1 f2 f3 f4 f5 hJ3 hK3 c1 c2
                gi_wp2
                go_roundw
                case rel => exact ⟨j + 1, by omega, by go_num, G1, G2, G3, G4, G5⟩
                case measure => simp [intOf]; omega
              · have S1 := Lib.hid (STO.out W3 hJx3)
                clear hJx3 hK3 c1 c2
                gi_wp2
                refine bodyPost_ret (results_none rfl _ _ _) rfl ?_
                exact ⟨⟨_, rfl⟩, .inr S1.out⟩
        · have e : j = n := by omega
          have jb : ¬ (j : Int) < (n : Int) := by omega
          have ek : IntKind.i64.wrap ((k : Int) + 1) = (k : Int) + 1 := IntWalk.i64_in _ (by omega)
          have JN : Hid (J (tabU first (k + 1)) wr) := Lib.hid (by
            have h := JJ.out
            rw [e, HFU.out] at h
            exact h)
          clear hjn e
          gi_wp2
          go_roundw
          case rel => exact ⟨k + 1, by omega, by go_num, JN, BJ, TJ, RJ⟩
          case measure => simp [intOf]; omega
    · have kb : ¬ (k : Int) < 27 := by omega
      obtain rfl : k = 27 := by omega
      clear hk27
      gi_wp2
      go_end0
      exact ⟨⟨_, rfl⟩, .inl JK.out⟩
end
end Cf
end Go.Proofs.YtpibeocngkjolaaGreatDoor
