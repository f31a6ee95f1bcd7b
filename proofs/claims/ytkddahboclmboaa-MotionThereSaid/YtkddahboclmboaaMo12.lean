/- MotionAlone. -/
import Derived.Test.YtkddahboclmboaaMo11
import Derived.BigQuiet
namespace Go.Proofs.Ytkddahboclmboaa
open Go.RowKit
namespace Mo
open Fr

def ixN (n g a k x y : Int) (i : Nat) : Nat := (pD n k + (pY n g a k y + (i / 8 : Nat)) * pW n k + pX n g a k x + (i % 8 : Nat)).toNat
theorem fet_ix (f : Nat → Int) (n g a k x y : Int) (i : Nat) : fetF f n g a k x y i = f (ixN n g a k x y i) := rfl
theorem ix_inj {n g a k x y : Int} (hv : vE n g a x y = 0) (hk : 1 ≤ k ∧ k ≤ 6) {i j : Nat} (h : ixN n g a k x y i = ixN n g a k x y j) : i = j := by
  obtain ⟨h1, h2, h3, h4⟩ := pXY_in hv hk
  have hn := (cE_cases n g a (vE_zero hv).1).1
  obtain ⟨d1, _, d3, _⟩ := pD_in hn hk
  unfold ixN at h
  obtain ⟨W, hW⟩ : ∃ W, pW n k = W := ⟨_, rfl⟩
  obtain ⟨X, hX⟩ : ∃ X, pX n g a k x = X := ⟨_, rfl⟩
  obtain ⟨Y, hY⟩ : ∃ Y, pY n g a k y = Y := ⟨_, rfl⟩
  obtain ⟨D, hD⟩ : ∃ D, pD n k = D := ⟨_, rfl⟩
  rw [hW, hX, hY, hD] at h
  rw [hW, hX] at h2
  rw [hX] at h1
  rw [hY] at h3
  rw [hD] at d1
  rw [hW] at d3
  have m1 : 0 ≤ (Y + ((i / 8 : Nat) : Int)) * W := Int.mul_nonneg (by omega) d3
  have m2 : 0 ≤ (Y + ((j / 8 : Nat) : Int)) * W := Int.mul_nonneg (by omega) d3
  rw [Int.add_mul] at m1 m2 h
  rw [Int.add_mul] at h
  have e : ((i / 8 : Nat) : Int) * W + ((i % 8 : Nat) : Int) = ((j / 8 : Nat) : Int) * W + ((j % 8 : Nat) : Int) := by omega
  have key : ∀ p q : Nat, p < q → ((p : Nat) : Int) * W + W ≤ (q : Int) * W := fun p q hpq => by
    have h5 : ((p : Int) + 1) * W ≤ (q : Int) * W := Int.mul_le_mul_of_nonneg_right (by omega) d3
    rw [Int.add_mul, Int.one_mul] at h5
    exact h5
  rcases Nat.lt_trichotomy (i / 8) (j / 8) with h5 | h5 | h5
  · have := key _ _ h5; omega
  · rw [h5] at e; omega
  · have := key _ _ h5; omega
theorem res_form {k : IntKind} {B n : Nat} {w : World} {v : Value} {f : Nat → Int} (h : Res k B w v n f) : ∃ o c, v = .slice o n c ∧ ∀ i, i < n → ∃ g, o = some ⟨g, 0, none⟩ ∧ g < w.heap.size ∧ Arr w k g n f := by
  rcases h with ⟨rfl, rfl⟩ | ⟨g, c, rfl, _, h2, _, _, h5⟩
  · exact ⟨none, 0, rfl, fun i hi => by omega⟩
  · exact ⟨_, c, rfl, fun i hi => ⟨g, rfl, h2, h5⟩⟩
def Cnt (ix : Nat → Nat) (q i cnt : Nat) : Prop := cnt = 0 ∨ (cnt = 1 ∧ ∃ j, j < i ∧ ix j = q)
def bump (F : Nat → Int) (q : Nat) : Nat → Int := fun i => if i = q then ((F q + 1) % 256) else F i

set_option maxRecDepth 100000 in
set_option maxHeartbeats 8000000 in
theorem MotionAlone_any (a0 a1 a2 a3 a4 a5 a6 a7 : Int) (w : World) (_ : (Lit.int .i64 a0).wf = true) (_ : (Lit.int .i64 a1).wf = true) (_ : (Lit.int .i64 a2).wf = true) (_ : (Lit.int .i64 a3).wf = true) (_ : (Lit.int .i64 a4).wf = true) (_ : (Lit.int .i64 a5).wf = true) (_ : (Lit.int .i64 a6).wf = true) (_ : (Lit.int .i64 a7).wf = true) :
    Calls Try.prog 7 #[.int .i64 a0, .int .i64 a1, .int .i64 a2, .int .i64 a3, .int .i64 a4, .int .i64 a5, .int .i64 a6, .int .i64 a7] w fun e w' => e = .returned (.bool true) ∧ Below w.heap.size w w' := by
  obtain ⟨n, hn⟩ : ∃ n, a0 % 2 = n := ⟨_, rfl⟩
  obtain ⟨g, hg⟩ : ∃ g, (if a0 % 2 = 0 then 1 + 2 * (a1 % 3) else 1 + a1 % 12) = g := ⟨_, rfl⟩
  obtain ⟨a, ha⟩ : ∃ a, 1 + a2 % 33 = a := ⟨_, rfl⟩
  obtain ⟨k, hk⟩ : ∃ k, 1 + a3 % 6 = k := ⟨_, rfl⟩
  obtain ⟨x0, hx0⟩ : ∃ x, a4 % 31 - 15 = x := ⟨_, rfl⟩
  obtain ⟨y0, hy0⟩ : ∃ y, a5 % 31 - 15 = y := ⟨_, rfl⟩
  have hn01 : n = 0 ∨ n = 1 := by omega
  have bk : 1 ≤ k ∧ k ≤ 6 := by omega
  have bx : -15 ≤ x0 ∧ x0 ≤ 15 := by omega
  have byy : -15 ≤ y0 ∧ y0 ≤ 15 := by omega
  obtain ⟨N, hN⟩ : ∃ N : Nat, (N : Int) = zV n := ⟨(zV n).toNat, by rcases hn01 with rfl | rfl <;> rfl⟩
  have Nb : 0 < N ∧ N ≤ 152064 := by rcases hn01 with rfl | rfl <;> (have : (N : Int) = _ := hN; simp [zV] at this; omega)
  have Nm : N ≤ maxLen := Nat.le_trans Nb.2 (by decide)
  have SPE : Hid ((Value.agg #[.int .i64 (a0 % 2), .int .i64 (if a0 % 2 = 0 then 1 + 2 * (a1 % 3) else 1 + a1 % 12), .int .i64 (1 + a2 % 33)]) = .agg #[.int .i64 n, .int .i64 g, .int .i64 a]) := Lib.hid (by rw [hg, ha, hn])
  have HK0 := Lib.hid hk
  have HX0 := Lib.hid hx0
  have HY0 := Lib.hid hy0
  have HN := Lib.hid hN
  have H01 := Lib.hid hn01
  clear hn hg ha hk hx0 hy0 hN hn01
  go_enter Try.func7, Try.ntmps7
  go_wp2_with fail
  refine (awake_any _).mono ?_
  rintro e w1 ⟨rfl, b1⟩
  have HB := Lib.hid b1
  clear b1
  go_wp2_with fail
  refine (Spot_any a0 a1 a2 _).mono ?_
  rintro e w2 ⟨rfl, b2⟩
  rw [SPE.out]
  have HB := Lib.hid (chain HB.out b2)
  have Z2 := Lib.hid HB.out.size
  clear b2
  go_wp2_with fail
  refine (Pick_any a3 6 _ (by omega) (by omega)).mono ?_
  rintro e w3 ⟨rfl, rfl⟩
  have HS : Hid (Spt (w2.alloc (.cells #[.int .i64 n, .int .i64 g, .int .i64 a] 23)) w2.heap.size n g a) := Lib.hid (heap_alloc_new w2 _)
  have HB := Lib.hid (HB.out.alloc HB.out.size (.cells #[.int .i64 n, .int .i64 g, .int .i64 a] 23))
  obtain ⟨q2, hq2⟩ : ∃ q, a3 % 6 = q := ⟨_, rfl⟩
  rw [hq2]
  have e2 : 1 + q2 = k := by rw [← hq2]; exact HK0.out
  have bq2 : 0 ≤ q2 ∧ q2 < 6 := by omega
  clear hq2
  go_wp2_with fail
  refine (Pick_any a4 31 _ (by omega) (by omega)).mono ?_
  rintro e w3 ⟨rfl, rfl⟩
  obtain ⟨q3, hq3⟩ : ∃ q, a4 % 31 = q := ⟨_, rfl⟩
  rw [hq3]
  have e3 : q3 - 15 = x0 := by rw [← hq3]; exact HX0.out
  have bq3 : 0 ≤ q3 ∧ q3 < 31 := by omega
  clear hq3
  go_wp2_with fail
  refine (Pick_any a5 31 _ (by omega) (by omega)).mono ?_
  rintro e w3 ⟨rfl, rfl⟩
  obtain ⟨q4, hq4⟩ : ∃ q, a5 % 31 = q := ⟨_, rfl⟩
  rw [hq4]
  have e4 : q4 - 15 = y0 := by rw [← hq4]; exact HY0.out
  have bq4 : 0 ≤ q4 ∧ q4 < 31 := by omega
  clear hq4
  obtain ⟨s0, s1, s2⟩ := HS.out.cells
  go_wp2_with fail
  refine (Scene_any n a6 5 N H01.out HN.out _).mono ?_
  rintro e w4 ⟨gi, F, rfl, i1, i2, hA, b4⟩
  have HS := Lib.hid (HS.out.below b4)
  have HI := Lib.hid hA
  have OI := Lib.hid i1
  have ngi : ¬ w2.heap.size = gi := by simp at i1; omega
  have ngi2 : ¬ gi = w2.heap.size := by simp at i1; omega
  have z4 := b4.size
  have HB := Lib.hid (chain HB.out b4)
  clear hA b4 s0 s1 s2 i1
  obtain ⟨s0, s1, s2⟩ := HS.out.cells
  go_wp2_with fail
  refine (Fetch_any _ N F n g a k x0 y0 _ (arr_slN HI.out Nb.1 Nm) (wf_small (by omega)) (wf_small (by omega))).mono ?_
  rintro e w5 ⟨v1, rfl, hR, b5⟩
  have OR := Lib.hid hR.own
  obtain ⟨o1, c1, rfl, hf1⟩ := res_form hR
  have HF1 := Lib.hid hf1
  have HS := Lib.hid (HS.out.below b5)
  have HI := Lib.hid (HI.out.below b5 i2)
  have z5 := b5.size
  have HB := Lib.hid (chain HB.out b5)
  clear b5 s0 s1 s2 hf1 hR
  have kN : ((N : Int) == 0) = false := by simp; omega
  go_wp2_with fail
  refine (Pick_any a7 N _ (by omega) (by omega)).mono ?_
  rintro e w6 ⟨rfl, rfl⟩
  obtain ⟨q, hq⟩ : ∃ q : Nat, a7 % (N : Int) = (q : Int) := ⟨(a7 % (N : Int)).toNat, by have := Int.emod_nonneg a7 (show (N : Int) ≠ 0 by omega); omega⟩
  have qN : q < N := by have := Int.emod_lt_of_pos a7 (show (0 : Int) < N by omega); omega
  rw [hq]
  clear hq
  have qb : (0 : Int) ≤ (q : Int) ∧ (q : Int) < (N : Int) := by omega
  have cq := HI.out q qN
  obtain ⟨s0, s1, s2⟩ := HS.out.cells
  go_wp2_with fail
  have SG := HI.out.set q (((F q + 1) % 256))
  have HI2 : Hid (Arr (w5.setCell ⟨gi, q, none⟩ (.int .u8 (((F q + 1) % 256)))) .u8 gi N (bump F q)) := Lib.hid SG
  have HG := Lib.hid (grown_set (World.grownBy.refl w5 (some gi)) q (.int .u8 (((F q + 1) % 256))))
  have HS : Hid (Spt (w5.setCell ⟨gi, q, none⟩ (.int .u8 (((F q + 1) % 256)))) w2.heap.size n g a) := Lib.hid ((Below.heap_setCell _ _ _ _ (by have := OI.out; simp at this ⊢; omega)).trans HS.out)
  have HF2 : Hid (∀ i, i < fetN (N : Int) n g a k x0 y0 → ∃ gg, o1 = some ⟨gg, 0, none⟩ ∧ gg < (w5.setCell ⟨gi, q, none⟩ (.int .u8 (((F q + 1) % 256)))).heap.size ∧ Arr (w5.setCell ⟨gi, q, none⟩ (.int .u8 (((F q + 1) % 256)))) .u8 gg (fetN (N : Int) n g a k x0 y0) (fetF F n g a k x0 y0)) := Lib.hid (fun i hi => by
    obtain ⟨gg, rfl, h2, h3⟩ := HF1.out i hi
    have := (OR.out gg rfl).1
    exact ⟨gg, rfl, by simpa [World.setCell] using h2, h3.far (a := ⟨gi, q, none⟩) (by simp; omega) _⟩)
  have HB := Lib.hid (HB.out.setCell (p := ⟨gi, q, none⟩) (by have h1 := OI.out; have h2 := Z2.out; simp at h1 ⊢; omega) (.int .u8 (((F q + 1) % 256))))
  obtain ⟨W6, hW6⟩ : ∃ W6, w5.setCell ⟨gi, q, none⟩ (.int .u8 (((F q + 1) % 256))) = W6 := ⟨_, rfl⟩
  rw [hW6] at HI2 HS HF2 HB ⊢
  clear hW6 SG HG HI HF1 cq s0 s1 s2 OR
  refine (Fetch_any _ N (bump F q) n g a k x0 y0 _ (arr_slN HI2.out Nb.1 Nm) (wf_small (by omega)) (wf_small (by omega))).mono ?_
  rintro e w7 ⟨v2, rfl, hR, b7⟩
  obtain ⟨o2, c2, rfl, hf2⟩ := res_form hR
  have HF3 := Lib.hid hf2
  have HF1 : Hid (∀ i, i < fetN (N : Int) n g a k x0 y0 → ∃ gg, o1 = some ⟨gg, 0, none⟩ ∧ gg < w7.heap.size ∧ Arr w7 .u8 gg (fetN (N : Int) n g a k x0 y0) (fetF F n g a k x0 y0)) := Lib.hid (fun i hi => by
    obtain ⟨gg, h1, h2, h3⟩ := HF2.out i hi
    exact ⟨gg, h1, Nat.lt_of_lt_of_le h2 b7.size, h3.below b7 h2⟩)
  have HB := Lib.hid (chain HB.out b7)
  clear b7 hR hf2 HF2 HI2 HS
  have kE : (fetE (N : Int) n g a k x0 y0 != fetE (N : Int) n g a k x0 y0) = false := by simp
  obtain ⟨E, hE⟩ : ∃ E, fetE (N : Int) n g a k x0 y0 = E := ⟨_, rfl⟩
  obtain ⟨M, hM⟩ : ∃ M, fetN (N : Int) n g a k x0 y0 = M := ⟨_, rfl⟩
  have IXE : Hid (M = 0 ∨ (M = 64 ∧ vE n g a x0 y0 = 0)) := Lib.hid (by
    by_cases h : fetE (N : Int) n g a k x0 y0 = 0
    · exact .inr ⟨by rw [← hM]; unfold fetN; rw [if_pos h], (fetE_zero h).2.2.2⟩
    · exact .inl (by rw [← hM]; unfold fetN; rw [if_neg h]))
  rw [hE] at kE ⊢
  rw [hM] at HF1 HF3 ⊢
  have hM64 : M ≤ 64 := by rcases IXE.out with h | h <;> omega
  clear hE hM
  have kM : (((M : Nat) : Int) != ((M : Nat) : Int)) = false := by simp
  go_wp2_with fail
  go_loopw [24, 25] (fun far i wr => ∃ i' cnt : Nat, i' ≤ M ∧ far = .int .i64 cnt ∧ i = .int .i64 i' ∧ Cnt (ixN n g a k x0 y0) q i' cnt ∧ Below w7.heap.size w7 wr) (fun _ i _ => M - (intOf i).toNat)
  case atStart => exact ⟨0, 0, by omega, rfl, rfl, .inl rfl, Below.refl _ _⟩
  case round =>
    obtain ⟨i, cnt, hi, rfl, rfl, hC, hB⟩ := hrel
    have HBr := Lib.hid hB
    have HC := Lib.hid hC
    have c1b : cnt ≤ 1 := by rcases hC with h | h <;> omega
    clear hB hC
    by_cases hiM : i < M
    · have M64 : M = 64 := by rcases IXE.out with h | h <;> omega
      obtain ⟨g1, rfl, l1, A1⟩ := HF1.out i hiM
      obtain ⟨g2, rfl, l2, A2⟩ := HF3.out i hiM
      have p1 := Past.cell ((A1.below HBr.out l1) i hiM).1
      have p2 := Past.cell ((A2.below HBr.out l2) i hiM).1
      rw [fet_ix] at p1 p2
      have ib : (0 : Int) ≤ (i : Int) ∧ (i : Int) < (M : Int) := by omega
      have di : decide ((i : Int) < (M : Int)) = true := by simp; omega
      have HV : Hid (vE n g a x0 y0 = 0) := Lib.hid (by rcases IXE.out with h | h; exact absurd h (by omega); exact h.2)
      clear A1 A2 HF1 HF3 IXE M64
      by_cases hq : ixN n g a k x0 y0 i = q
      · have c0 : cnt = 0 := by
          rcases HC.out with h | ⟨_, j, hj, hjq⟩
          · exact h
          · have := ix_inj HV.out bk (hq.trans hjq.symm); omega
        subst c0
        have HQ := Lib.hid hq
        rw [hq] at p1 p2
        rw [show bump F q q = ((F q + 1) % 256) by unfold bump; rw [if_pos rfl]] at p2
        obtain ⟨A, hA⟩ : ∃ A, F q = A := ⟨_, rfl⟩
        obtain ⟨B, hB⟩ : ∃ B, ((F q + 1) % 256) = B := ⟨_, rfl⟩
        rw [hA] at p1
        rw [hB] at p2
        have hAB : (A + 1) % 256 = B := by rw [← hA]; exact hB
        clear hA hB hq HC
        by_cases hne : A = B
        · have t1 : (A != B) = false := by simp [hne]
          clear hne
          go_wp2_with fail
          refine wp_region_past (by kernel_rfl) (by kernel_rfl) ?_
          repeat (go_big_quiet_step (fail))
          refine wpQuiet_nil ?_
          rintro w8 ⟨⟨_, h8⟩, rfl⟩
          clear p1 p2
          go_wp2_with fail
          go_roundw
          case rel => exact ⟨i + 1, 0, by omega, rfl, by go_num, .inl rfl, chain HBr.out h8⟩
          case measure => simp [intOf]; omega
        · have t1 : (A != B) = true := by simp [hne]
          clear hne
          go_wp2_with fail
          refine wp_region_past (by kernel_rfl) (by kernel_rfl) ?_
          repeat (go_big_quiet_step (fail))
          refine wpQuiet_nil ?_
          rintro w8 ⟨⟨_, h8⟩, rfl⟩
          have p3 : ∀ x : Past w8, x.now.cell? ⟨g1, i, none⟩ = some (.int .u8 A) := fun x => p1 ⟨x.now, h8.trans (x.kept.mono h8.size)⟩
          have p4 : ∀ x : Past w8, x.now.cell? ⟨g2, i, none⟩ = some (.int .u8 B) := fun x => p2 ⟨x.now, h8.trans (x.kept.mono h8.size)⟩
          clear p1 p2
          go_wp2_with fail
          refine wp_region_past (by kernel_rfl) (by kernel_rfl) ?_
          repeat (go_big_quiet_step (fail))
          refine wpQuiet_nil ?_
          rintro w9 ⟨⟨_, h9⟩, rfl⟩
          clear p3 p4
          go_wp2_with fail
          go_roundw
          case rel => exact ⟨i + 1, 1, by omega, rfl, by go_num, .inr ⟨rfl, i, by omega, HQ.out⟩, chain (chain HBr.out h8) h9⟩
          case measure => simp [intOf]; omega
      · rw [show bump F q (ixN n g a k x0 y0 i) = F (ixN n g a k x0 y0 i) by unfold bump; rw [if_neg hq]] at p2
        obtain ⟨A, hA⟩ : ∃ A, F (ixN n g a k x0 y0 i) = A := ⟨_, rfl⟩
        rw [hA] at p1 p2
        have t1 : (A != A) = false := by simp
        clear hA hq
        go_wp2_with fail
        refine wp_region_past (by kernel_rfl) (by kernel_rfl) ?_
        repeat (go_big_quiet_step (fail))
        refine wpQuiet_nil ?_
        rintro w8 ⟨⟨_, h8⟩, rfl⟩
        clear p1 p2
        go_wp2_with fail
        go_roundw
        case rel =>
          refine ⟨i + 1, cnt, by omega, rfl, by go_num, ?_, chain HBr.out h8⟩
          rcases HC.out with h | ⟨h, j, hj, hjq⟩
          · exact .inl h
          · exact .inr ⟨h, j, by omega, hjq⟩
        case measure => simp [intOf]; omega
    · have di : decide ((i : Int) < (M : Int)) = false := by simp; omega
      have hiM' : (M : Int) ≤ (i : Int) := by omega
      have dc : decide ((cnt : Int) ≤ 1) = true := by simp; omega
      have dc2 : decide ((cnt : Nat) ≤ 1) = true := by simp; omega
      clear HF1 HF3
      go_wp2_with fail
      go_ret
      exact ⟨rfl, HB.out.trans (HBr.out.mono HB.out.size)⟩
end Mo
end Go.Proofs.Ytkddahboclmboaa
