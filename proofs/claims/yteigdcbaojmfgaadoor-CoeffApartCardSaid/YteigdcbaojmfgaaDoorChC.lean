/- The document's rows; Coded. -/
import Derived.Test.YteigdcbaojmfgaaDoorChP
import Derived.Test.YteigdcbaojmfgaaDoorCfT
import Derived.Test.YteigdcbaojmfgaaDoorCfU
import Derived.Test.YteigdcbaojmfgaaDoorCfE
import Derived.Deep.AppendLies
namespace Go.Proofs.YteigdcbaojmfgaaDoor
open Go.RowKit
set_option linter.unusedSimpArgs false
set_option linter.unusedVariables false
namespace Cf
theorem own_apart {w : World} {B1 B2 n1 n2 s1 s2 : Nat} {e1 e2 : TypeId} {v1 v2 : Value} {l1 l2 : List Value} (he : e1 ≠ e2) (h1 : w.ownsRow B1 e1 s1 v1 n1 l1) (h2 : w.ownsRow B2 e2 s2 v2 n2 l2) : v1.ownBlock = none ∨ v1.ownBlock ≠ v2.ownBlock := by
  rcases h1.2 with ⟨rfl, _⟩ | ⟨g, cap, cur, rfl, _, hg, _⟩
  · exact .inl rfl
  · refine .inr fun e => ?_
    rcases h2.2 with ⟨rfl, _⟩ | ⟨g2, cap2, cur2, rfl, _, hg2, _⟩
    · simp [Value.ownBlock] at e
    · have e : g = g2 := by simpa [Value.ownBlock] using e
      subst e
      rw [hg] at hg2
      injection hg2 with hg2
      injection hg2 with _ h3 _
      exact he h3
theorem own_base {w : World} {B B' n s : Nat} {e : TypeId} {v : Value} {l : List Value} (h : w.ownsRow B e s v n l) (hb : B' ≤ B) : w.ownsRow B' e s v n l := by
  refine ⟨h.1, ?_⟩
  rcases h.2 with h | ⟨g, cap, cur, rfl, h1, h2⟩
  · exact .inl h
  · exact .inr ⟨g, cap, cur, rfl, Nat.le_trans hb h1, h2⟩
theorem info_pair : (Tryd.prog.info? 26).map (fun i => (i.zero, i.size, i.bytes)) = some (some (.agg #[.int .i64 0, .int .i64 0]), 2, 16) := by kernel_rfl
theorem info_str : (Tryd.prog.info? 9).map (fun i => (i.zero, i.size, i.bytes)) = some (some (.string ⟨#[]⟩), 1, 16) := by kernel_rfl
/-- two rows of the call's own: pairs, and their codes. -/
structure Two (B : Nat) (W : World) (v1 v2 : Value) (l : List Ent) : Prop where
  p : W.ownsRow B 26 2 v1 l.length (pairC l)
  c : W.ownsRow B 9 1 v2 l.length (codeC l)
theorem Two.nil (B : Nat) (W : World) : Two B W (.slice none 0 0) (.slice none 0 0) [] := ⟨World.ownsRow_nil _ _ _ _, World.ownsRow_nil _ _ _ _⟩
theorem Two.c5 {B : Nat} {W W5 : World} {v1 v2 : Value} {l : List Ent} {o : Obj} (h : Two B W v1 v2 l) (g1 : (W.alloc o).grownBy W5 v1.ownBlock) : W5.ownsRow B 9 1 v2 l.length (codeC l) :=
  (h.c.alloc o).kept g1 (own_apart (by decide) (h.c.alloc o) (h.p.alloc o))
theorem Two.push {B : Nat} {W W5 W6 : World} {v1 v2 v1' v2' : Value} {l : List Ent} {e : Ent} {o o2 : Obj} (h : Two B W v1 v2 l) (g1 : (W.alloc o).grownBy W5 v1.ownBlock) (h1 : W5.ownsRow B 26 2 v1' (l.length + 1) (pairC l ++ [.int .i64 e.run, .int .i64 e.lvl]))
    (g2 : (W5.alloc o2).grownBy W6 v2.ownBlock) (h2 : W6.ownsRow B 9 1 v2' (l.length + 1) (codeC l ++ [sv (cs e.code)])) : Two B W6 v1' v2' (l ++ [e]) := by
  have e1 : (l ++ [e]).length = l.length + 1 := by simp
  refine ⟨?_, ?_⟩
  · rw [e1, pairC_snoc]
    exact (h1.alloc o2).kept g2 (own_apart (by decide) (h1.alloc o2) ((h.c5 g1).alloc o2))
  · rw [e1, codeC_snoc]
    exact h2
theorem Two.bel1 {B D : Nat} {W0 W W5 : World} {v1 v2 : Value} {l : List Ent} {o : Obj} (h : Two B W v1 v2 l) (hD : D ≤ B) (hB : Below D W0 W) (hz : D ≤ W0.heap.size) (g1 : (W.alloc o).grownBy W5 v1.ownBlock) : Below D W0 W5 := by
  have z := hB.size
  exact (hB.alloc (by omega) o).grown g1 (by simp; omega) (fun q hq => by have := (h.p.lt q hq).1; omega)
theorem Two.bel {B D : Nat} {W0 W W5 W6 : World} {v1 v2 : Value} {l : List Ent} {o o2 : Obj} (h : Two B W v1 v2 l) (hD : D ≤ B) (hB : Below D W0 W) (hz : D ≤ W0.heap.size) (g1 : (W.alloc o).grownBy W5 v1.ownBlock) (g2 : (W5.alloc o2).grownBy W6 v2.ownBlock) : Below D W0 W5 ∧ Below D W0 W6 := by
  have z := hB.size
  have b5 := (hB.alloc (by omega) o).grown g1 (by simp; omega) (fun q hq => by have := (h.p.lt q hq).1; omega)
  have z5 := b5.size
  have c5 := h.c5 g1
  exact ⟨b5, (b5.alloc (by omega) o2).grown g2 (by simp; omega) (fun q hq => by have := (c5.lt q hq).1; omega)⟩
section
set_option maxRecDepth 100000
set_option maxHeartbeats 4000000
set_option linter.unusedVariables false
theorem rrows_any (w : World) : Calls Tryd.prog 57 #[] w fun e w' => e = .returned (.slice (some ⟨w.heap.size, 0, none⟩) 27 27) ∧ w' = w.alloc (.cells rowsA 9) := by
  go_enter Tryd.func57, Tryd.ntmps57
  go_wp2
  go_ret
  exact ⟨rfl, by rfl⟩
def CodedTo (w : World) (e : Ending) (w' : World) : Prop :=
  ∃ g1 c1 g2 c2, e = .returned (.tuple #[.slice (some ⟨g1, 0, none⟩) 63 c1, .slice (some ⟨g2, 0, none⟩) 63 c2]) ∧ Two w.heap.size w' (.slice (some ⟨g1, 0, none⟩) 63 c1) (.slice (some ⟨g2, 0, none⟩) 63 c2) (tab false) ∧ Below w.heap.size w w'
theorem Coded_any (w : World) : Calls Tryd.prog 35 #[] w (CodedTo w) := by
  obtain ⟨i0, hi, hz0, hz1, hz2⟩ := info_parts info_pair
  obtain ⟨j0, gi, gz0, gz1, gz2⟩ := info_parts info_str
  have HR := Lib.hid (rrows_any w)
  have B0 := Lib.hid ((Below.refl w.heap.size w).alloc (Nat.le_refl _) (.cells rowsA 9))
  have RB := Lib.hid (heap_alloc_new w (.cells rowsA 9))
  obtain ⟨W0, hW0⟩ : ∃ W0, w.alloc (.cells rowsA 9) = W0 := ⟨_, rfl⟩
  rw [hW0] at B0 RB HR
  have RC : Hid (∀ W, Below (w.heap.size + 1) W0 W → ∀ k, k < 27 → W.cell? ⟨w.heap.size, k, none⟩ = some (sv (rowS k))) := Lib.hid fun W hW k hk => (hW.cell (p := ⟨w.heap.size, k, none⟩) (Nat.lt_succ_self _)).trans (cell_row RB.out (rowsA_get k hk))
  have WZ := Lib.hid (show W0.heap.size = w.heap.size + 1 by rw [← hW0]; simp)
  have HWW := Lib.hid hW0
  clear hW0
  go_enter Tryd.func35, Tryd.ntmps35
  go_wp2_with (go_at_call 57; refine HR.out.mono ?_; rintro e w1 ⟨rfl, rfl⟩)
  go_loopw [2, 3, 5] (fun v1 v2 i wr => ∃ k : Nat, k ≤ 27 ∧ i = .int .i64 k ∧ Hid (Two (w.heap.size + 1) wr v1 v2 (tabU false k)) ∧ Hid (Below (w.heap.size + 1) w1 wr)) (fun _ _ i _ => 27 - (intOf i).toNat)
  case atStart => exact ⟨0, by omega, rfl, Lib.hid (Two.nil _ _), Lib.hid (Below.refl _ _)⟩
  case round =>
    obtain ⟨k, hk, rfl, HT, HB⟩ := hrel
    by_cases hk27 : k < 27
    · have cS := RC.out wr HB.out k hk27
      have t1 : (k : Int) < 27 := by omega
      obtain ⟨S, hS⟩ : ∃ S : ByteArray, sv (rowS k) = .string S := ⟨_, rfl⟩
      have hSS : S = ⟨(rowS k).toArray⟩ := by unfold sv at hS; injection hS with h; exact h.symm
      obtain ⟨Z, hZ⟩ : ∃ Z, (rowS k).length = Z := ⟨_, rfl⟩
      have hSz : S.size = Z := by rw [hSS, ba_size, hZ]
      have hZ2 : Z < 200 := by rw [← hZ]; exact (rowS_small k hk27).1
      rw [hS] at cS
      have HS := Lib.hid hS
      have HSS := Lib.hid hSS
      have HZ := Lib.hid hZ
      have R0 := Lib.hid (rowT_0 k)
      clear hS hSS hZ hk
      go_wp2_with fail
      obtain ⟨wo, rfl⟩ : ∃ wo : World, wo = wr := ⟨_, rfl⟩
      go_loopw [2, 3, 6, 7, 8] (fun v1 v2 lv fr i wr => ∃ j : Nat, j ≤ Z + 1 ∧ i = .int .i64 j ∧ lv = .int .i64 ((sc (rowS k) j).1 + 1 : Nat) ∧ fr = .int .i64 (sc (rowS k) j).2 ∧ Hid (Two (w.heap.size + 1) wr v1 v2 (rowT k j)) ∧ Hid (Below (w.heap.size + 1) w1 wr)) (fun _ _ _ _ i _ => Z + 1 - (intOf i).toNat)
      case atStart => exact ⟨0, by omega, rfl, rfl, rfl, Lib.hid (by rw [R0.out]; exact HT.out), HB⟩
      case round =>
        obtain ⟨j, hj, rfl, rfl, rfl, HT2, HB2⟩ := hrel
        have cS2 := RC.out wr HB2.out k hk27
        rw [HS.out] at cS2
        have ff := sc_at hk27 (i := j)
        have hle := rowT_le (i := j) hk27
        have z2 := HB2.out.size
        have wz := WZ.out
        rw [HZ.out] at ff
        by_cases hjZ : j ≤ Z
        · obtain ⟨f1, f2, f3⟩ := ff hjZ
          have hsm := rowN_small k hk27
          have t2 : (j : Int) ≤ (Z : Int) := by omega
          have HCT := Lib.hid (rfl : cutAt (rowS k) j = cutAt (rowS k) j)
          have ST := Lib.hid (sc_step (rowS k) j)
          have hex : ∀ i, S.extract i j = ⟨(((rowS k).take j).drop i).toArray⟩ := fun i => by rw [HSS.out]; exact ba_extract _ _ _
          have HEX := Lib.hid hex
          have hch : ∀ h : j < S.size, S[j]'h = (rowS k).getD j 0 := by
            intro h
            have e := HSS.out
            subst e
            have h2 : j < (rowS k).length := h
            rw [List.getD_eq_getElem?_getD, List.getElem?_eq_getElem h2]
            rfl
          have HCH := Lib.hid hch
          have hg : j < Z → (rowS k)[j]? = some ((rowS k).getD j 0) := fun h => by
            rw [List.getD_eq_getElem?_getD, List.getElem?_eq_getElem (by rw [HZ.out]; exact h)]
            rfl
          obtain ⟨ch, hchv⟩ : ∃ c, (rowS k).getD j 0 = c := ⟨_, rfl⟩
          rw [hchv] at HCH hg
          have hcut : cutAt (rowS k) j = (decide (j = Z) || decide (j < Z ∧ ch = 32)) := by
            unfold cutAt
            rw [HZ.out]
            by_cases e : j = Z
            · simp [e]
            · rw [hg (by omega)]
              have : j < Z := by omega
              simp [e, this]
              rfl
          obtain ⟨a', ha'⟩ : ∃ a, (sc (rowS k) j).1 = a := ⟨_, rfl⟩
          obtain ⟨b', hb'⟩ : ∃ a, (sc (rowS k) j).2 = a := ⟨_, rfl⟩
          rw [ha', hb'] at f3 ⊢
          rw [ha'] at f2
          rw [hb'] at f1
          have HA' := Lib.hid ha'
          have HB' := Lib.hid hb'
          have ta : ((a' : Nat) : Int) + 1 ≤ 20 := by omega
          have HHC := Lib.hid hcut
          have HF3 := Lib.hid f3
          have cN : ∀ a, ((a + 1 : Nat) : Int) = (a : Int) + 1 := fun a => by omega
          obtain ⟨a, haa⟩ : ∃ a : Int, ((a' + 1 : Nat) : Int) = a := ⟨_, rfl⟩
          have HAA := Lib.hid haa
          have ta2 : 0 ≤ a ∧ a ≤ 20 := by omega
          rw [haa]
          have tb : ((b' : Nat) : Int) ≤ (j : Int) := by omega
          clear hex hch hchv hg hcut ha' hb' f3 ff cN haa
          by_cases hct : cutAt (rowS k) j = true
          · obtain ⟨c1, c2⟩ := HF3.out hct
            have RT := Lib.hid (rowT_cut hk27 (by rw [HZ.out]; exact hjZ) hct)
            have SC1 : Hid ((sc (rowS k) (j + 1)).1 = a' + 1) := Lib.hid (by rw [ST.out, if_pos hct, HA'.out])
            have SC2 : Hid ((sc (rowS k) (j + 1)).2 = j + 1) := Lib.hid (by rw [ST.out, if_pos hct])
            obtain ⟨C, hC⟩ : ∃ C : ByteArray, sv (cs ((rowN k).getD (sc (rowS k) j).1 [])) = .string C := ⟨_, rfl⟩
            have HCV := Lib.hid hC
            have hex : S.extract b' j = C := by
              rw [HEX.out, c2]
              unfold sv at hC
              injection hC with h
              rw [← h, HA'.out]
            have HRTL := Lib.hid (show (rowT k j).length ≤ 63 from hle)
            clear hC c1 c2 hsm
            by_cases hjz : j = Z
            · subst hjz
              clear hct t2 hjZ hj
              go_wp2_with (first
              | (at_builtin; refine wpList_append_own _ rfl (.tmp 41) (.tmp 45) 39 rfl (w.heap.size + 1) 26 i0 (.agg #[.int .i64 0, .int .i64 0]) 2 16 Tryd.underlying39 hi hz0 hz1 hz2 rfl (by decide) _ _ _ rfl (HT2.out.p.alloc _) ⟨wr.heap.size, 0, none⟩ 1 1 [.int .i64 k, .int .i64 a] rfl rfl (World.news_of_block (cs := #[.int .i64 k, .int .i64 a]) (t := 26) (fr := (0, 0)) (heap_alloc_new wr _)) (by simp [Value.oneCell']) (by unfold maxLen; omega) (by omega) (by simp; omega) ?_; intro v5 w5 own5 gr5 _; have O5 := Lib.hid own5; have G5 := Lib.hid gr5; have C5 := Lib.hid (HT2.out.c5 gr5); have B5 := Lib.hid (HT2.out.bel1 (Nat.le_refl _) HB2.out (Nat.le_of_eq WZ.out.symm) gr5); have cS5 := RC.out w5 B5.out k hk27; have z5 := B5.out.size; rw [HS.out] at cS5; clear own5 gr5)
              | (at_builtin; refine wpList_append_own _ rfl (.tmp 47) (.tmp 55) 59 rfl (w.heap.size + 1) 9 j0 (.string ⟨#[]⟩) 1 16 Tryd.underlying59 gi gz0 gz1 gz2 rfl (by decide) _ _ _ rfl (C5.out.alloc _) ⟨w5.heap.size, 0, none⟩ 1 1 [.string C] rfl rfl (cell_one_new _ _ _) (by simp [Value.oneCell']) (by unfold maxLen; omega) (by omega) (by simp; omega) ?_; intro v6 w6 own6 gr6 _; have O6 := Lib.hid own6; have G6 := Lib.hid gr6; clear own6 gr6))
              have O5b : Hid (w5.ownsRow (w.heap.size + 1) 26 2 v5 ((rowT k j).length + 1) (pairC (rowT k j) ++ [.int .i64 k, .int .i64 ((sc (rowS k) j).1 + 1 : Nat)])) := Lib.hid (by rw [HA'.out, HAA.out]; exact O5.out)
              have BB := Lib.hid (HT2.out.bel (Nat.le_refl _) HB2.out (Nat.le_of_eq WZ.out.symm) G5.out G6.out)
              go_roundw
              case rel => exact ⟨j + 1, by omega, by go_num, by rw [SC1.out]; exact congrArg _ (by have := HAA.out; omega), by rw [SC2.out]; go_num, Lib.hid (by rw [RT.out]; exact HT2.out.push G5.out O5b.out G6.out (by rw [HCV.out]; exact O6.out)), Lib.hid BB.out.2⟩
              case measure => simp [intOf]; try omega
            · have t3 : ((j : Int) == (Z : Int)) = false := by rw [beq_eq_false_iff_ne]; omega
              have t4 : (j : Int) < (Z : Int) := by omega
              have e32 : ch = 32 := by
                have := HHC.out.symm.trans hct
                simp [hjz] at this
                exact this.2
              have hch := HCH.out
              rw [e32] at hch
              clear hct e32 hj
              go_wp2_with (first
              | (at_builtin; refine wpList_append_own _ rfl (.tmp 41) (.tmp 45) 39 rfl (w.heap.size + 1) 26 i0 (.agg #[.int .i64 0, .int .i64 0]) 2 16 Tryd.underlying39 hi hz0 hz1 hz2 rfl (by decide) _ _ _ rfl (HT2.out.p.alloc _) ⟨wr.heap.size, 0, none⟩ 1 1 [.int .i64 k, .int .i64 a] rfl rfl (World.news_of_block (cs := #[.int .i64 k, .int .i64 a]) (t := 26) (fr := (0, 0)) (heap_alloc_new wr _)) (by simp [Value.oneCell']) (by unfold maxLen; omega) (by omega) (by simp; omega) ?_; intro v5 w5 own5 gr5 _; have O5 := Lib.hid own5; have G5 := Lib.hid gr5; have C5 := Lib.hid (HT2.out.c5 gr5); have B5 := Lib.hid (HT2.out.bel1 (Nat.le_refl _) HB2.out (Nat.le_of_eq WZ.out.symm) gr5); have cS5 := RC.out w5 B5.out k hk27; have z5 := B5.out.size; rw [HS.out] at cS5; clear own5 gr5)
              | (at_builtin; refine wpList_append_own _ rfl (.tmp 47) (.tmp 55) 59 rfl (w.heap.size + 1) 9 j0 (.string ⟨#[]⟩) 1 16 Tryd.underlying59 gi gz0 gz1 gz2 rfl (by decide) _ _ _ rfl (C5.out.alloc _) ⟨w5.heap.size, 0, none⟩ 1 1 [.string C] rfl rfl (cell_one_new _ _ _) (by simp [Value.oneCell']) (by unfold maxLen; omega) (by omega) (by simp; omega) ?_; intro v6 w6 own6 gr6 _; have O6 := Lib.hid own6; have G6 := Lib.hid gr6; clear own6 gr6))
              have O5b : Hid (w5.ownsRow (w.heap.size + 1) 26 2 v5 ((rowT k j).length + 1) (pairC (rowT k j) ++ [.int .i64 k, .int .i64 ((sc (rowS k) j).1 + 1 : Nat)])) := Lib.hid (by rw [HA'.out, HAA.out]; exact O5.out)
              have BB := Lib.hid (HT2.out.bel (Nat.le_refl _) HB2.out (Nat.le_of_eq WZ.out.symm) G5.out G6.out)
              go_roundw
              case rel => exact ⟨j + 1, by omega, by go_num, by rw [SC1.out]; exact congrArg _ (by have := HAA.out; omega), by rw [SC2.out]; go_num, Lib.hid (by rw [RT.out]; exact HT2.out.push G5.out O5b.out G6.out (by rw [HCV.out]; exact O6.out)), Lib.hid BB.out.2⟩
              case measure => simp [intOf]; try omega
          · have hct2 := Bool.eq_false_iff.2 hct
            have RT := Lib.hid (rowT_stay hct2)
            have SC0 : Hid (sc (rowS k) (j + 1) = sc (rowS k) j) := Lib.hid (by rw [ST.out, hct2]; rfl)
            have hne := HHC.out.symm.trans hct2
            simp at hne
            have t3 : ((j : Int) == (Z : Int)) = false := by rw [beq_eq_false_iff_ne]; omega
            have t4 : (j : Int) < (Z : Int) := by omega
            have t5 : ((ch.toNat : Int) == 32) = false := by
              rw [beq_eq_false_iff_ne]
              intro e
              exact hne.2 (by omega) (UInt8.toNat_inj.1 (by have : (32 : UInt8).toNat = 32 := rfl; omega))
            have hch := HCH.out
            clear hct hct2 hne
            go_wp2_with fail
            go_roundw
            case rel => exact ⟨j + 1, by omega, by go_num, by rw [SC0.out, HA'.out, HAA.out], by rw [SC0.out, HB'.out], Lib.hid (by rw [RT.out]; exact HT2.out), HB2⟩
            case measure => simp [intOf]; try omega
        · obtain rfl : j = Z + 1 := by omega
          have RE := Lib.hid (rowT_end hk27)
          have t2 : ¬ ((Z + 1 : Nat) : Int) ≤ (Z : Int) := by omega
          clear ff
          go_wp2_with fail
          go_roundw
          case rel => exact ⟨k + 1, by omega, by go_num, Lib.hid (by rw [← RE.out, HZ.out]; exact HT2.out), HB2⟩
          case measure => simp [intOf]; try omega
    · obtain rfl : k = 27 := by omega
      have e63 : (tabU false 27).length = 63 := tab_len false
      have HP := HT.out.p
      have HQ := HT.out.c
      rw [e63] at HP HQ
      obtain ⟨g1, c1, rfl, _, _⟩ := HP.form (by decide)
      obtain ⟨g2, c2, rfl, _, _⟩ := HQ.form (by decide)
      have T2 := Lib.hid (show Two w.heap.size wr (.slice (some ⟨g1, 0, none⟩) 63 c1) (.slice (some ⟨g2, 0, none⟩) 63 c2) (tab false) from ⟨own_base HT.out.p (Nat.le_succ _), own_base HT.out.c (Nat.le_succ _)⟩)
      clear HP HQ e63 hk
      go_wp2_with fail
      go_ret2
      exact ⟨g1, c1, g2, c2, rfl, T2.out, B0.out.trans (HB.out.mono (Nat.le_succ _))⟩
end
end Cf
end Go.Proofs.YteigdcbaojmfgaaDoor
