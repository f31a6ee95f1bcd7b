/- The document's rows; Coded. | The document's Pair, bits, Escape. -/
import Derived.Test.YtpibeocngkjolaaGreatDoorMgCfE
import Derived.Test.YtpibeocngkjolaaGreatDoorMgCfT
import Derived.Test.YtpibeocngkjolaaGreatDoorMgCfU
import Derived.Test.YtpibeocngkjolaaGreatDoorMgChP
import Derived.Deep.AppendLies
set_option linter.unusedVariables false
set_option linter.unusedSimpArgs false

namespace Go.Proofs.YtpibeocngkjolaaGreatDoor
open Go.RowKit
set_option linter.unusedSimpArgs false
set_option linter.unusedVariables false
namespace Cf
theorem own_apart {w : World} {B1 B2 n1 n2 s1 s2 : Nat} {e1 e2 : TypeId} {v1 v2 : Value} {l1 l2 : List Value} (he : e1 ≠ e2) (h1 : w.ownsRow B1 e1 s1 v1 n1 l1) (h2 : w.ownsRow B2 e2 s2 v2 n2 l2) : v1.ownBlock = none ∨ v1.ownBlock ≠ v2.ownBlock := by
  rcases h1.2 with ⟨rfl, _⟩ | ⟨g, cap, cur, rfl, _, hg, _⟩
  · exact .inl rfl
  · refine .inr fun e => ?_
    rcases h2.2 with ⟨rfl, _⟩ | ⟨g2, cap2, cur2, rfl, _, hg2, _⟩
    · simp [Value.ownBlock] at e
    · have e : g = g2 := by simpa [Value.ownBlock] using e
      subst e
      rw [hg] at hg2
      injection hg2 with hg2
      injection hg2 with _ h3 _
      exact he h3
theorem own_base {w : World} {B B' n s : Nat} {e : TypeId} {v : Value} {l : List Value} (h : w.ownsRow B e s v n l) (hb : B' ≤ B) : w.ownsRow B' e s v n l := by
  refine ⟨h.1, ?_⟩
  rcases h.2 with h | ⟨g, cap, cur, rfl, h1, h2⟩
  · exact .inl h
  · exact .inr ⟨g, cap, cur, rfl, Nat.le_trans hb h1, h2⟩
theorem info_pair : (Tryz.prog.info? 69).map (fun i => (i.zero, i.size, i.bytes)) = some (some (.agg #[.int .i64 0, .int .i64 0]), 2, 16) := by kernel_rfl
theorem info_str : (Tryz.prog.info? 9).map (fun i => (i.zero, i.size, i.bytes)) = some (some (.string ⟨#[]⟩), 1, 16) := by kernel_rfl
/-- two rows of the call's own: pairs, and their codes. -/
structure Two (B : Nat) (W : World) (v1 v2 : Value) (l : List Ent) : Prop where
  p : W.ownsRow B 69 2 v1 l.length (pairC l)
  c : W.ownsRow B 9 1 v2 l.length (codeC l)
theorem Two.nil (B : Nat) (W : World) : Two B W (.slice none 0 0) (.slice none 0 0) [] := ⟨World.ownsRow_nil _ _ _ _, World.ownsRow_nil _ _ _ _⟩
theorem Two.c5 {B : Nat} {W W5 : World} {v1 v2 : Value} {l : List Ent} {o : Obj} (h : Two B W v1 v2 l) (g1 : (W.alloc o).grownBy W5 v1.ownBlock) : W5.ownsRow B 9 1 v2 l.length (codeC l) :=
  (h.c.alloc o).kept g1 (own_apart (by decide) (h.c.alloc o) (h.p.alloc o))
theorem Two.push {B : Nat} {W W5 W6 : World} {v1 v2 v1' v2' : Value} {l : List Ent} {e : Ent} {o o2 : Obj} (h : Two B W v1 v2 l) (g1 : (W.alloc o).grownBy W5 v1.ownBlock) (h1 : W5.ownsRow B 69 2 v1' (l.length + 1) (pairC l ++ [.int .i64 e.run, .int .i64 e.lvl]))
    (g2 : (W5.alloc o2).grownBy W6 v2.ownBlock) (h2 : W6.ownsRow B 9 1 v2' (l.length + 1) (codeC l ++ [sv (cs e.code)])) : Two B W6 v1' v2' (l ++ [e]) := by
  have e1 : (l ++ [e]).length = l.length + 1 := by simp
  refine ⟨?_, ?_⟩
  · rw [e1, pairC_snoc]
    exact (h1.alloc o2).kept g2 (own_apart (by decide) (h1.alloc o2) ((h.c5 g1).alloc o2))
  · rw [e1, codeC_snoc]
    exact h2
theorem Two.bel1 {B D : Nat} {W0 W W5 : World} {v1 v2 : Value} {l : List Ent} {o : Obj} (h : Two B W v1 v2 l) (hD : D ≤ B) (hB : Below D W0 W) (hz : D ≤ W0.heap.size) (g1 : (W.alloc o).grownBy W5 v1.ownBlock) : Below D W0 W5 := by
  have z := hB.size
  exact (hB.alloc (by omega) o).grown g1 (by simp; omega) (fun q hq => by have := (h.p.lt q hq).1; omega)
theorem Two.bel {B D : Nat} {W0 W W5 W6 : World} {v1 v2 : Value} {l : List Ent} {o o2 : Obj} (h : Two B W v1 v2 l) (hD : D ≤ B) (hB : Below D W0 W) (hz : D ≤ W0.heap.size) (g1 : (W.alloc o).grownBy W5 v1.ownBlock) (g2 : (W5.alloc o2).grownBy W6 v2.ownBlock) : Below D W0 W5 ∧ Below D W0 W6 := by
  have z := hB.size
  have b5 := (hB.alloc (by omega) o).grown g1 (by simp; omega) (fun q hq => by have := (h.p.lt q hq).1; omega)
  have z5 := b5.size
  have c5 := h.c5 g1
  exact ⟨b5, (b5.alloc (by omega) o2).grown g2 (by simp; omega) (fun q hq => by have := (c5.lt q hq).1; omega)⟩
section
set_option maxRecDepth 100000
set_option maxHeartbeats 4000000
set_option linter.unusedVariables false
theorem rrows_any (w : World) : Calls Tryz.prog 92 #[] w fun e w' => e = .returned (.slice (some ⟨w.heap.size, 0, none⟩) 27 27) ∧ w' = w.alloc (.cells rowsA 9) := by
  go_enter Tryz.func92, Tryz.ntmps92
  go_wp2
  go_ret
  exact ⟨rfl, by rfl⟩
def CodedTo (w : World) (e : Ending) (w' : World) : Prop :=
  ∃ g1 c1 g2 c2, e = .returned (.tuple #[.slice (some ⟨g1, 0, none⟩) 63 c1, .slice (some ⟨g2, 0, none⟩) 63 c2]) ∧ Two w.heap.size w' (.slice (some ⟨g1, 0, none⟩) 63 c1) (.slice (some ⟨g2, 0, none⟩) 63 c2) (tab false) ∧ Below w.heap.size w w'
theorem Coded_any (w : World) : Calls Tryz.prog 67 #[] w (CodedTo w) := by
  obtain ⟨i0, hi, hz0, hz1, hz2⟩ := info_parts info_pair
  obtain ⟨j0, gi, gz0, gz1, gz2⟩ := info_parts info_str
  have HR := Lib.hid (rrows_any w)
  have B0 := Lib.hid ((Below.refl w.heap.size w).alloc (Nat.le_refl _) (.cells rowsA 9))
  have RB := Lib.hid (heap_alloc_new w (.cells rowsA 9))
  obtain ⟨W0, hW0⟩ : ∃ W0, w.alloc (.cells rowsA 9) = W0 := ⟨_, rfl⟩
  rw [hW0] at B0 RB HR
  have RC : Hid (∀ W, Below (w.heap.size + 1) W0 W → ∀ k, k < 27 → W.cell? ⟨w.heap.size, k, none⟩ = some (sv (rowS k))) := Lib.hid fun W hW k hk => (hW.cell (p := ⟨w.heap.size, k, none⟩) (Nat.lt_succ_self _)).trans (cell_row RB.out (rowsA_get k hk))
  have WZ := Lib.hid (show W0.heap.size = w.heap.size + 1 by rw [← hW0]; simp)
  have HWW := Lib.hid hW0
  clear hW0
  go_enter Tryz.func67, Tryz.ntmps67
  go_wp2_with (go_at_call 92; refine HR.out.mono ?_; rintro e w1 ⟨rfl, rfl⟩)
  go_loopw [2, 3, 5] (fun v1 v2 i wr => ∃ k : Nat, k ≤ 27 ∧ i = .int .i64 k ∧ Hid (Two (w.heap.size + 1) wr v1 v2 (tabU false k)) ∧ Hid (Below (w.heap.size + 1) w1 wr)) (fun _ _ i _ => 27 - (intOf i).toNat)
  case atStart => exact ⟨0, by omega, rfl, Lib.hid (Two.nil _ _), Lib.hid (Below.refl _ _)⟩
  case round =>
    obtain ⟨k, hk, rfl, HT, HB⟩ := hrel
    by_cases hk27 : k < 27
    · have cS := RC.out wr HB.out k hk27
      have t1 : (k : Int) < 27 := by omega
      obtain ⟨S, hS⟩ : ∃ S : ByteArray, sv (rowS k) = .string S := ⟨_, rfl⟩
      have hSS : S = ⟨(rowS k).toArray⟩ := by unfold sv at hS; injection hS with h; exact h.symm
      obtain ⟨Z, hZ⟩ : ∃ Z, (rowS k).length = Z := ⟨_, rfl⟩
      have hSz : S.size = Z := by rw [hSS, ba_size, hZ]
      have hZ2 : Z < 200 := by rw [← hZ]; exact (rowS_small k hk27).1
      rw [hS] at cS
      have HS := Lib.hid hS
      have HSS := Lib.hid hSS
      have HZ := Lib.hid hZ
      have R0 := Lib.hid (rowT_0 k)
      clear hS hSS hZ hk
      go_wp2_with fail
      obtain ⟨wo, rfl⟩ : ∃ wo : World, wo = wr := ⟨_, rfl⟩
      go_loopw [2, 3, 6, 7, 8] (fun v1 v2 lv fr i wr => ∃ j : Nat, j ≤ Z + 1 ∧ i = .int .i64 j ∧ lv = .int .i64 ((sc (rowS k) j).1 + 1 : Nat) ∧ fr = .int .i64 (sc (rowS k) j).2 ∧ Hid (Two (w.heap.size + 1) wr v1 v2 (rowT k j)) ∧ Hid (Below (w.heap.size + 1) w1 wr)) (fun _ _ _ _ i _ => Z + 1 - (intOf i).toNat)
      case atStart => exact ⟨0, by omega, rfl, rfl, rfl, Lib.hid (by rw [R0.out]; exact HT.out), HB⟩
      case round =>
        obtain ⟨j, hj, rfl, rfl, rfl, HT2, HB2⟩ := hrel
        have cS2 := RC.out wr HB2.out k hk27
        rw [HS.out] at cS2
        have ff := sc_at hk27 (i := j)
        have hle := rowT_le (i := j) hk27
        have z2 := HB2.out.size
        have wz := WZ.out
        rw [HZ.out] at ff
        by_cases hjZ : j ≤ Z
        · obtain ⟨f1, f2, f3⟩ := ff hjZ
          have hsm := rowN_small k hk27
          have t2 : (j : Int) ≤ (Z : Int) := by omega
          have HCT := Lib.hid (rfl : cutAt (rowS k) j = cutAt (rowS k) j)
          have ST := Lib.hid (sc_step (rowS k) j)
          have hex : ∀ i, S.extract i j = ⟨(((rowS k).take j).drop i).toArray⟩ := fun i => by rw [HSS.out]; exact ba_extract _ _ _
          have HEX := Lib.hid hex
          have hch : ∀ h : j < S.size, S[j]'h = (rowS k).getD j 0 := by
            intro h
            have e := HSS.out
            subst e
            have h2 : j < (rowS k).length := h
            rw [List.getD_eq_getElem?_getD, List.getElem?_eq_getElem h2]
            rfl
          have HCH := Lib.hid hch
          have hg : j < Z → (rowS k)[j]? = some ((rowS k).getD j 0) := fun h => by
            rw [List.getD_eq_getElem?_getD, List.getElem?_eq_getElem (by rw [HZ.out]; exact h)]
            rfl
          obtain ⟨ch, hchv⟩ : ∃ c, (rowS k).getD j 0 = c := ⟨_, rfl⟩
          rw [hchv] at HCH hg
          have hcut : cutAt (rowS k) j = (decide (j = Z) || decide (j < Z ∧ ch = 32)) := by
            unfold cutAt
            rw [HZ.out]
            by_cases e : j = Z
            · simp [e]
            · rw [hg (by omega)]
              have : j < Z := by omega
              simp [e, this]
              rfl
          obtain ⟨a', ha'⟩ : ∃ a, (sc (rowS k) j).1 = a := ⟨_, rfl⟩
          obtain ⟨b', hb'⟩ : ∃ a, (sc (rowS k) j).2 = a := ⟨_, rfl⟩
          rw [ha', hb'] at f3 ⊢
          rw [ha'] at f2
          rw [hb'] at f1
          have HA' := Lib.hid ha'
          have HB' := Lib.hid hb'
          have ta : ((a' : Nat) : Int) + 1 ≤ 20 := by omega
          have HHC := Lib.hid hcut
          have HF3 := Lib.hid f3
          have cN : ∀ a, ((a + 1 : Nat) : Int) = (a : Int) + 1 := fun a => by omega
          obtain ⟨a, haa⟩ : ∃ a : Int, ((a' + 1 : Nat) : Int) = a := ⟨_, rfl⟩
          have HAA := Lib.hid haa
          have ta2 : 0 ≤ a ∧ a ≤ 20 := by omega
          rw [haa]
          have tb : ((b' : Nat) : Int) ≤ (j : Int) := by omega
          clear hex hch hchv hg hcut ha' hb' f3 ff cN haa
          by_cases hct : cutAt (rowS k) j = true
          · obtain ⟨c1, c2⟩ := HF3.out hct
            have RT := Lib.hid (rowT_cut hk27 (by rw [HZ.out]; exact hjZ) hct)
            have SC1 : Hid ((sc (rowS k) (j + 1)).1 = a' + 1) := Lib.hid (by rw [ST.out, if_pos hct, HA'.out])
            have SC2 : Hid ((sc (rowS k) (j + 1)).2 = j + 1) := Lib.hid (by rw [ST.out, if_pos hct])
            obtain ⟨C, hC⟩ : ∃ C : ByteArray, sv (cs ((rowN k).getD (sc (rowS k) j).1 [])) = .string C := ⟨_, rfl⟩
            have HCV := Lib.hid hC
            have hex : S.extract b' j = C := by
              rw [HEX.out, c2]
              unfold sv at hC
              injection hC with h
              rw [← h, HA'.out]
            have HRTL := Lib.hid (show (rowT k j).length ≤ 63 from hle)
            clear hC c1 c2 hsm
            by_cases hjz : j = Z
            · subst hjz
              clear hct t2 hjZ hj
              go_wp2_with (first
              | (at_builtin; refine wpList_append_own _ rfl (.tmp 41) (.tmp 45) 25 rfl (w.heap.size + 1) 69 i0 (.agg #[.int .i64 0, .int .i64 0]) 2 16 Tryz.underlying25 hi hz0 hz1 hz2 rfl (by decide) _ _ _ rfl (HT2.out.p.alloc _) ⟨wr.heap.size, 0, none⟩ 1 1 [.int .i64 k, .int .i64 a] rfl rfl (World.news_of_block (cs := #[.int .i64 k, .int .i64 a]) (t := 69) (fr := (0, 0)) (heap_alloc_new wr _)) (by simp [Value.oneCell']) (by unfold maxLen; omega) (by omega) (by simp; omega) ?_; intro v5 w5 own5 gr5 _; have O5 := Lib.hid own5; have G5 := Lib.hid gr5; have C5 := Lib.hid (HT2.out.c5 gr5); have B5 := Lib.hid (HT2.out.bel1 (Nat.le_refl _) HB2.out (Nat.le_of_eq WZ.out.symm) gr5); have cS5 := RC.out w5 B5.out k hk27; have z5 := B5.out.size; rw [HS.out] at cS5; clear own5 gr5)
              | (at_builtin; refine wpList_append_own _ rfl (.tmp 47) (.tmp 55) 98 rfl (w.heap.size + 1) 9 j0 (.string ⟨#[]⟩) 1 16 Tryz.underlying98 gi gz0 gz1 gz2 rfl (by decide) _ _ _ rfl (C5.out.alloc _) ⟨w5.heap.size, 0, none⟩ 1 1 [.string C] rfl rfl (cell_one_new _ _ _) (by simp [Value.oneCell']) (by unfold maxLen; omega) (by omega) (by simp; omega) ?_; intro v6 w6 own6 gr6 _; have O6 := Lib.hid own6; have G6 := Lib.hid gr6; clear own6 gr6))
              have O5b : Hid (w5.ownsRow (w.heap.size + 1) 69 2 v5 ((rowT k j).length + 1) (pairC (rowT k j) ++ [.int .i64 k, .int .i64 ((sc (rowS k) j).1 + 1 : Nat)])) := Lib.hid (by rw [HA'.out, HAA.out]; exact O5.out)
              have BB := Lib.hid (HT2.out.bel (Nat.le_refl _) HB2.out (Nat.le_of_eq WZ.out.symm) G5.out G6.out)
              go_roundw
              case rel => exact ⟨j + 1, by omega, by go_num, by rw [SC1.out]; exact congrArg _ (by have := HAA.out; omega), by rw [SC2.out]; go_num, Lib.hid (by rw [RT.out]; exact HT2.out.push G5.out O5b.out G6.out (by rw [HCV.out]; exact O6.out)), Lib.hid BB.out.2⟩
              case measure => simp [intOf]; try omega
            · have t3 : ((j : Int) == (Z : Int)) = false := by rw [beq_eq_false_iff_ne]; omega
              have t4 : (j : Int) < (Z : Int) := by omega
              have e32 : ch = 32 := by
                have := HHC.out.symm.trans hct
                simp [hjz] at this
                exact this.2
              have hch := HCH.out
              rw [e32] at hch
              clear hct e32 hj
              go_wp2_with (first
              | (at_builtin; refine wpList_append_own _ rfl (.tmp 41) (.tmp 45) 25 rfl (w.heap.size + 1) 69 i0 (.agg #[.int .i64 0, .int .i64 0]) 2 16 Tryz.underlying25 hi hz0 hz1 hz2 rfl (by decide) _ _ _ rfl (HT2.out.p.alloc _) ⟨wr.heap.size, 0, none⟩ 1 1 [.int .i64 k, .int .i64 a] rfl rfl (World.news_of_block (cs := #[.int .i64 k, .int .i64 a]) (t := 69) (fr := (0, 0)) (heap_alloc_new wr _)) (by simp [Value.oneCell']) (by unfold maxLen; omega) (by omega) (by simp; omega) ?_; intro v5 w5 own5 gr5 _; have O5 := Lib.hid own5; have G5 := Lib.hid gr5; have C5 := Lib.hid (HT2.out.c5 gr5); have B5 := Lib.hid (HT2.out.bel1 (Nat.le_refl _) HB2.out (Nat.le_of_eq WZ.out.symm) gr5); have cS5 := RC.out w5 B5.out k hk27; have z5 := B5.out.size; rw [HS.out] at cS5; clear own5 gr5)
              | (at_builtin; refine wpList_append_own _ rfl (.tmp 47) (.tmp 55) 98 rfl (w.heap.size + 1) 9 j0 (.string ⟨#[]⟩) 1 16 Tryz.underlying98 gi gz0 gz1 gz2 rfl (by decide) _ _ _ rfl (C5.out.alloc _) ⟨w5.heap.size, 0, none⟩ 1 1 [.string C] rfl rfl (cell_one_new _ _ _) (by simp [Value.oneCell']) (by unfold maxLen; omega) (by omega) (by simp; omega) ?_; intro v6 w6 own6 gr6 _; have O6 := Lib.hid own6; have G6 := Lib.hid gr6; clear own6 gr6))
              have O5b : Hid (w5.ownsRow (w.heap.size + 1) 69 2 v5 ((rowT k j).length + 1) (pairC (rowT k j) ++ [.int .i64 k, .int .i64 ((sc (rowS k) j).1 + 1 : Nat)])) := Lib.hid (by rw [HA'.out, HAA.out]; exact O5.out)
              have BB := Lib.hid (HT2.out.bel (Nat.le_refl _) HB2.out (Nat.le_of_eq WZ.out.symm) G5.out G6.out)
              go_roundw
              case rel => exact ⟨j + 1, by omega, by go_num, by rw [SC1.out]; exact congrArg _ (by have := HAA.out; omega), by rw [SC2.out]; go_num, Lib.hid (by rw [RT.out]; exact HT2.out.push G5.out O5b.out G6.out (by rw [HCV.out]; exact O6.out)), Lib.hid BB.out.2⟩
              case measure => simp [intOf]; try omega
          · have hct2 := Bool.eq_false_iff.2 hct
            have RT := Lib.hid (rowT_stay hct2)
            have SC0 : Hid (sc (rowS k) (j + 1) = sc (rowS k) j) := Lib.hid (by rw [ST.out, hct2]; rfl)
            have hne := HHC.out.symm.trans hct2
            simp at hne
            have t3 : ((j : Int) == (Z : Int)) = false := by rw [beq_eq_false_iff_ne]; omega
            have t4 : (j : Int) < (Z : Int) := by omega
            have t5 : ((ch.toNat : Int) == 32) = false := by
              rw [beq_eq_false_iff_ne]
              intro e
              exact hne.2 (by omega) (UInt8.toNat_inj.1 (by have : (32 : UInt8).toNat = 32 := rfl; omega))
            have hch := HCH.out
            clear hct hct2 hne
            go_wp2_with fail
            go_roundw
            case rel => exact ⟨j + 1, by omega, by go_num, by rw [SC0.out, HA'.out, HAA.out], by rw [SC0.out, HB'.out], Lib.hid (by rw [RT.out]; exact HT2.out), HB2⟩
            case measure => simp [intOf]; try omega
        · obtain rfl : j = Z + 1 := by omega
          have RE := Lib.hid (rowT_end hk27)
          have t2 : ¬ ((Z + 1 : Nat) : Int) ≤ (Z : Int) := by omega
          clear ff
          go_wp2_with fail
          go_roundw
          case rel => exact ⟨k + 1, by omega, by go_num, Lib.hid (by rw [← RE.out, HZ.out]; exact HT2.out), HB2⟩
          case measure => simp [intOf]; try omega
    · obtain rfl : k = 27 := by omega
      have e63 : (tabU false 27).length = 63 := tab_len false
      have HP := HT.out.p
      have HQ := HT.out.c
      rw [e63] at HP HQ
      obtain ⟨g1, c1, rfl, _, _⟩ := HP.form (by decide)
      obtain ⟨g2, c2, rfl, _, _⟩ := HQ.form (by decide)
      have T2 := Lib.hid (show Two w.heap.size wr (.slice (some ⟨g1, 0, none⟩) 63 c1) (.slice (some ⟨g2, 0, none⟩) 63 c2) (tab false) from ⟨own_base HT.out.p (Nat.le_succ _), own_base HT.out.c (Nat.le_succ _)⟩)
      clear HP HQ e63 hk
      go_wp2_with fail
      go_ret2
      exact ⟨g1, c1, g2, c2, rfl, T2.out, B0.out.trans (HB.out.mono (Nat.le_succ _))⟩
end
end Cf
end Go.Proofs.YtpibeocngkjolaaGreatDoor

namespace Go.Proofs.YtpibeocngkjolaaGreatDoor
open Go.RowKit
set_option linter.unusedSimpArgs false
set_option linter.unusedVariables false
namespace Cf
section
set_option maxRecDepth 100000
set_option maxHeartbeats 4000000
set_option linter.unusedVariables false
theorem rPair_any (r l : Int) (w : World) : Calls Tryz.prog 72 #[prV r l] w fun e w' => e = .returned (.bool (pairB r l)) ∧ Below w.heap.size w w' := by
  unfold prV pairB
  go_enter Tryz.func72, Tryz.ntmps72
  have B1 : ∀ {v : Obj}, Below w.heap.size w (w.alloc v) := fun {v} => (Below.refl w.heap.size w).alloc (Nat.le_refl _) v
  by_cases h1 : 0 ≤ r
  · by_cases h2 : r ≤ 63
    · by_cases h3 : -127 ≤ l
      · by_cases h4 : l ≤ 127
        · by_cases h5 : l = 0
          · subst h5
            go_wp2_with fail
            go_ret
            exact ⟨by simp, B1⟩
          · go_wp2_with fail
            go_ret
            exact ⟨by simp [*] <;> omega, B1⟩
        · go_wp2_with fail
          go_ret
          exact ⟨by simp [*] <;> omega, B1⟩
      · go_wp2_with fail
        go_ret
        exact ⟨by simp [*] <;> omega, B1⟩
    · go_wp2_with fail
      go_ret
      exact ⟨by simp [*] <;> omega, B1⟩
  · go_wp2_with fail
    go_ret
    exact ⟨by simp [*] <;> omega, B1⟩
theorem bitsL_cons : ∀ k n, bitsL (k + 1) n = ((n / 2 ^ k) % 2 == 1) :: bitsL k n
  | 0, n => by simp [bitsL]
  | k + 1, n => by
    rw [bitsL, bitsL_cons k (n / 2)]
    conv => rhs; rw [bitsL]
    rw [Nat.div_div_eq_div_mul, Nat.pow_succ, Nat.mul_comm 2]
    rfl
theorem one_new (w : World) (x : Int) (c : UInt8) (h : x = c.toNat) : (convert 22 9 (.slice (some ⟨w.heap.size, 0, none⟩) 1 1)).run Tryz.prog (w.alloc (.cells #[.int .u8 x] 5)) = .ok (.string ⟨#[c]⟩) (w.alloc (.cells #[.int .u8 x] 5)) := by
  subst h
  have A : Arr (w.alloc (.cells #[.int .u8 (c.toNat : Int)] 5)) .u8 w.heap.size 1 (fun _ => (c.toNat : Int)) := Arr.new w .u8 _ _ 1 _ (by
    intro i hi
    obtain rfl : i = 0 := by omega
    rfl)
  rw [run_str (f := fun _ => (c.toNat : Int)) Tryz.underlying22 Tryz.underlying5 Tryz.underlying9 A.ints 1]
  have e : strOf 1 (fun _ => (c.toNat : Int)) = ⟨#[c]⟩ := by simp [strOf]; rfl
  rw [e]
theorem bch_nat (y : Nat) (h : y = 0 ∨ y = 1) : (48 + (y : Int)) = (bch (y == 1)).toNat := by rcases h with rfl | rfl <;> rfl
theorem rbits_any (n many : Nat) (w : World) (hn : n < 1000000) (hm : many ≤ 8) : Calls Tryz.prog 96 #[.int .i64 n, .int .i64 many] w fun e w' => e = .returned (sv (cs (bitsL many n))) ∧ Below w.heap.size w w' := by
  go_enter Tryz.func96, Tryz.ntmps96
  go_wp2_with fail
  go_loopw [0, 5, 6] (fun m s i wr => ∃ k q : Nat, k ≤ many ∧ i = .int .i64 k ∧ m = .int .i64 q ∧ q < 1000000 ∧ Hid (q = n / 2 ^ k) ∧ Hid (s = sv (cs (bitsL k n))) ∧ Hid (Below w.heap.size w wr)) (fun _ _ i _ => many - (intOf i).toNat)
  case atStart => exact ⟨0, n, by omega, rfl, rfl, hn, Lib.hid (by simp), Lib.hid (by rfl), Lib.hid (Below.refl _ _)⟩
  case round =>
    obtain ⟨k, q, hk, rfl, rfl, hq, HQ, HS, HB⟩ := hrel
    have hs := HS.out
    subst hs
    by_cases hkm : k < many
    · have t1 : (k : Int) < (many : Int) := by omega
      have hq2 : q % 2 = 0 ∨ q % 2 = 1 := by omega
      have hl := bitsL_len k n
      have HC := Lib.hid (bitsL_cons k n)
      obtain ⟨s, hss⟩ : ∃ s : ByteArray, (⟨(cs (bitsL k n)).toArray⟩ : ByteArray) = s := ⟨_, rfl⟩
      have hz : s.size = k := by rw [← hss, ba_size]; simp [cs, hl]
      unfold sv
      rw [hss]
      have HSS := Lib.hid hss
      obtain ⟨y, hy⟩ : ∃ y : Nat, q % 2 = y := ⟨_, rfl⟩
      have hym : Int.tmod (q : Int) 2 = (y : Int) := by rw [Int.tmod_eq_emod_of_nonneg (by omega)]; omega
      have hyd : Int.tdiv (q : Int) 2 = ((q / 2 : Nat) : Int) := by rw [Int.tdiv_eq_ediv_of_nonneg (by omega)]; rfl
      rw [hy] at hq2
      have HY := Lib.hid hy
      clear hl hss hy
      have h1n := one_new wr (48 + (y : Int)) _ (bch_nat y hq2)
      have HB1 := Lib.hid (HB.out.alloc HB.out.size (.cells #[.int .u8 (48 + (y : Int))] 5))
      have HR : Hid (Value.string (⟨#[bch (y == 1)]⟩ ++ s) = sv (cs (bitsL (k + 1) n))) := Lib.hid (by
        rw [HC.out, ← HSS.out, ← HY.out, HQ.out]
        unfold sv
        congr 1)
      obtain ⟨T, hT⟩ : ∃ T : ByteArray, (⟨#[bch (y == 1)]⟩ : ByteArray) = T := ⟨_, rfl⟩
      have hTz : T.size = 1 := by rw [← hT]; rfl
      rw [hT] at h1n HR
      have tz : (T ++ s).size = k + 1 := by rw [ByteArray.size_append]; omega
      have HQ1 : Hid (q / 2 = n / 2 ^ (k + 1)) := Lib.hid (by rw [HQ.out, Nat.div_div_eq_div_mul, Nat.pow_succ])
      obtain ⟨q', hq'⟩ : ∃ q', q / 2 = q' := ⟨_, rfl⟩
      have hq'' : q' < 1000000 := by omega
      rw [hq'] at hyd HQ1
      clear hT hq'
      go_wp2_with fail
      go_roundw
      case rel => exact ⟨k + 1, q', by omega, by go_num, rfl, hq'', HQ1, HR, HB1⟩
      case measure => simp [intOf]; omega
    · obtain rfl : k = many := by omega
      have t1 : ¬ (k : Int) < (k : Int) := by omega
      go_wp2_with fail
      go_ret
      exact ⟨rfl, HB.out⟩
theorem rEscape_any (r l : Int) (w : World) (hT : Tabs w) :
    Calls Tryz.prog 74 #[prV r l] w fun e w' => e = .returned (.tuple #[if pairB r l then sv (cs (escL r l)) else sv [], .int .i64 (if pairB r l then 0 else 3)]) ∧ Below w.heap.size w w' := by
  have HP := Lib.hid (fun W => rPair_any r l W)
  by_cases hp : pairB r l
  · rw [if_pos hp, if_pos hp]
    rw [hp] at HP
    have hr : 0 ≤ r ∧ r ≤ 63 ∧ -127 ≤ l ∧ l ≤ 127 ∧ l ≠ 0 := by simpa [pairB] using hp
    have H6 := Lib.hid (fun W => rbits_any r.toNat 6 W (by omega) (by omega))
    have H8 := Lib.hid (fun W => rbits_any (l % 256).toNat 8 W (by omega) (by omega))
    have el : Int.tmod (l + 256) 256 = l % 256 := by rw [Int.tmod_eq_emod_of_nonneg (by omega)]; omega
    have el3 : IntKind.i64.wrap (l + 256) = l + 256 := IntWalk.i64_in _ (by omega)
    have er : ((r.toNat : Nat) : Int) = r := by omega
    have el2 : (((l % 256).toNat : Nat) : Int) = l % 256 := by omega
    rw [er] at H6
    rw [el2] at H8
    unfold prV at HP ⊢
    unfold sv
    have P0 := Lib.hid (PK.new r l hT)
    have X6 := bitsL_len 6 r.toNat
    have X8 := bitsL_len 8 (l % 256).toNat
    have HE : (⟨#[48, 48, 48, 48, 48, 49]⟩ : ByteArray) ++ ⟨(cs (bitsL 6 r.toNat)).toArray⟩ ++ ⟨(cs (bitsL 8 (l % 256).toNat)).toArray⟩ = ⟨(cs (escL r l)).toArray⟩ := by
      apply ByteArray.ext
      simp [escL, cs, bch]
    have z6 : (⟨(cs (bitsL 6 r.toNat)).toArray⟩ : ByteArray).size = 6 := by rw [ba_size]; simp [cs, X6]
    have z8 : (⟨(cs (bitsL 8 (l % 256).toNat)).toArray⟩ : ByteArray).size = 8 := by rw [ba_size]; simp [cs, X8]
    unfold sv at H6 H8
    obtain ⟨s6, hs6⟩ : ∃ s : ByteArray, (⟨(cs (bitsL 6 r.toNat)).toArray⟩ : ByteArray) = s := ⟨_, rfl⟩
    obtain ⟨s8, hs8⟩ : ∃ s : ByteArray, (⟨(cs (bitsL 8 (l % 256).toNat)).toArray⟩ : ByteArray) = s := ⟨_, rfl⟩
    rw [hs6] at H6 HE z6
    rw [hs8] at H8 HE z8
    have za : ((⟨#[48, 48, 48, 48, 48, 49]⟩ : ByteArray) ++ s6).size = 12 := by rw [ByteArray.size_append, z6]; rfl
    have HEH := Lib.hid HE
    have b1 : -127 ≤ l := hr.2.2.1
    have b2 : l ≤ 127 := hr.2.2.2.1
    have ew : IntKind.i64.wrap (l % 256) = l % 256 := IntWalk.i64_in _ (by omega)
    clear X6 X8 hs6 hs8 HE
    clear hr hp er el2 hT
    go_enter Tryz.func74, Tryz.ntmps74
    go_wp2_with (go_at_call 72; refine (HP.out _).mono ?_; rintro e w1 ⟨rfl, hB1⟩; have P1 := Lib.hid (P0.out.below hB1); clear hB1)
    have P2 := Lib.hid P1.out.drew
    have k0 := P2.out.c0
    have k1 := P2.out.c1
    clear P0 P1
    go_region_with (first
      | (go_at_call_of 96 (Value.int IntKind.i64 6); refine (H6.out _).mono ?_; rintro e w2 ⟨rfl, h2⟩; have P2 := Lib.hid (P2.out.below h2); have k0 := P2.out.c0; have k1 := P2.out.c1; clear h2)
      | (go_at_call_of 96 (Value.int IntKind.i64 8); refine (H8.out _).mono ?_; rintro e w3 ⟨rfl, h3⟩; have P2 := Lib.hid (P2.out.below h3); have k0 := P2.out.c0; have k1 := P2.out.c1; clear h3))
    all_goals (go_wp2_with fail; go_ret2; exact ⟨by rw [← HEH.out]; rfl, P2.out.bel⟩)
  · rw [if_neg hp, if_neg hp]
    rw [Bool.eq_false_iff.2 hp] at HP
    have B0 := Lib.hid (show Below w.heap.size w (w.alloc (Obj.cells #[.int .i64 r, .int .i64 l] 69)) from (Below.refl w.heap.size w).alloc (Nat.le_refl _) _)
    unfold prV at HP ⊢
    clear hp
    go_enter Tryz.func74, Tryz.ntmps74
    go_wp2_with (go_at_call 72; refine (HP.out _).mono ?_; rintro e w1 ⟨rfl, hB1⟩; have B1 := Lib.hid (chain B0.out hB1); clear hB1)
    go_ret2
    exact ⟨rfl, B1.out⟩
end
end Cf
end Go.Proofs.YtpibeocngkjolaaGreatDoor
