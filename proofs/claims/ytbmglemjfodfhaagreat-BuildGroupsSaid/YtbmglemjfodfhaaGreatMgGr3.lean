/- Whether a macroblock's lists are too long. | Groups that came in: as they read; whether one is too long. | Groups: which macroblock stands where, which quantiser and picture are behind each address: plain; whether a group is too long. | build.places: a group's addresses, and which macroblock stands there. -/
import Derived.Test.YtbmglemjfodfhaaGreatMgBl2
import Derived.Test.YtbmglemjfodfhaaGreatMgIx
import Derived.Test.YtbmglemjfodfhaaGreatMgMIn
import Derived.Test.YtbmglemjfodfhaaGreatMgNestB
import Derived.Test.YtbmglemjfodfhaaGreatMgPar
set_option linter.unusedVariables false
set_option linter.unusedSimpArgs false
namespace Go.Proofs.YtbmglemjfodfhaaGreat
open Go.RowKit
namespace Bl
open Bk Fr Pt Kd Bu
def Short (M : MB) : Prop := M.m ≤ 8 ∧ ∀ j, j < M.m → M.nn j ≤ 70
theorem Short.at {M : MB} {w : World} {v : Value} (hs : Short M) (h : MB.raw M w v) : M.at w v := h.fit (fun j hj => Nat.le_trans (hs.2 j hj) (by omega))
def LongR (M : MB) (w : World) (e : Ending) (w' : World) : Prop := ∃ b : Bool, e = .returned (.bool b) ∧ (b = false → Short M) ∧ Below w.heap.size w w'
set_option maxRecDepth 100000 in
set_option maxHeartbeats 2000000 in
theorem LongMacro_any (M : MB) (vb : Value) (w : World) (h : MB.raw M w vb) :
    Calls Tryz.prog 11 #[mv M vb] w (LongR M w) := by
  have HB := Lib.hid ((Below.refl w.heap.size w).alloc (Nat.le_refl _) (.cells #[.int .i64 M.ad, .int .i64 M.kd, .int .i64 M.qt, .int .i64 M.x, .int .i64 M.y, .int .i64 M.pt, vb] 24))
  have H1 : Hid (At _ _ _ _) := Lib.hid (At.new w #[.int .i64 M.ad, .int .i64 M.kd, .int .i64 M.qt, .int .i64 M.x, .int .i64 M.y, .int .i64 M.pt, vb] 24)
  have HR := Lib.hid (h.below HB.out)
  clear h
  obtain ⟨a, c, hv, h1, h2, h3⟩ := HR.out
  subst hv
  have H3 := Lib.hid h3
  have c6 := H1.out.cell 6 _ rfl
  clear HR h3
  go_enter Tryz.func11, Tryz.ntmps11
  go_wp2_with fail
  generalize w.alloc (.cells #[.int .i64 M.ad, .int .i64 M.kd, .int .i64 M.qt, .int .i64 M.x, .int .i64 M.y, .int .i64 M.pt, .slice a M.m c] 24) = W1 at *
  go_loopw [3] (fun x wr => ∃ k : Nat, k ≤ M.m ∧ k ≤ 9 ∧ x = .int .i64 k ∧ wr = W1 ∧ Hid (∀ j, j < k → M.nn j ≤ 70)) (fun x _ => 9 - (intOf x).toNat)
  case atStart => exact ⟨0, by omega, by omega, rfl, rfl, Lib.hid (fun j hj => by omega)⟩
  case round =>
    obtain ⟨k, hk, hk9, rfl, rfl, HK⟩ := hrel
    by_cases hkm : k < M.m
    · by_cases hk8 : k < 9
      · have kb : (0 : Int) ≤ (k : Int) ∧ (k : Int) < (M.m : Int) ∧ (k : Int) < 9 := by omega
        rcases H3.out with h0 | ⟨b, o, rfl, hI⟩
        · omega
        obtain ⟨_, d2, _⟩ := hI k hkm
        by_cases h70 : M.nn k ≤ 70
        · have t1 : ¬ (70 : Int) < (M.nn k : Int) := by omega
          clear hI
          go_wp2_with fail
          go_roundw
          case rel => exact ⟨k + 1, by omega, by omega, by go_num, trivial, Lib.hid (fun j hj => by
            by_cases e : j = k
            · rw [e]; exact h70
            · exact HK.out j (by omega))⟩
          case measure => simp [intOf]; omega
        · have t1 : (70 : Int) < (M.nn k : Int) := by omega
          clear hI
          go_wp2_with fail
          go_ret
          exact ⟨true, rfl, (fun h => absurd h (by decide)), HB.out⟩
      · have t1 : ¬ (k : Int) < 9 := by omega
        have t2 : (k : Int) < (M.m : Int) := by omega
        have t3 : (8 : Int) < (M.m : Int) := by omega
        go_wp2_with fail
        go_ret
        exact ⟨true, rfl, (fun h => absurd h (by decide)), HB.out⟩
    · have e : k = M.m := by omega
      have t2 : ¬ (k : Int) < (M.m : Int) := by omega
      by_cases h8 : M.m ≤ 8
      · have t3 : ¬ (8 : Int) < (M.m : Int) := by omega
        have HS : Hid (Short M) := Lib.hid ⟨h8, fun j hj => HK.out j (by omega)⟩
        go_wp2_with fail
        go_ret
        exact ⟨false, rfl, fun _ => HS.out, HB.out⟩
      · have t3 : (8 : Int) < (M.m : Int) := by omega
        go_wp2_with fail
        go_ret
        exact ⟨true, rfl, (fun h => absurd h (by decide)), HB.out⟩
end Bl
end Go.Proofs.YtbmglemjfodfhaaGreat
namespace Go.Proofs.YtbmglemjfodfhaaGreat
open Go.RowKit Go.ChangeShapes Go.WideShapes
namespace Bl
open Bk Kd
structure GB where
  (num qt : Int) (sa : Option Addr) (sN sc : Nat) (sf : Nat → Int) (m : Nat) (Ms : Nat → MB) (vb : Nat → Value)
def mcell (M : MB) (vb : Value) (i : Nat) : Value := if i = 0 then .int .i64 M.ad else if i = 1 then .int .i64 M.kd else if i = 2 then .int .i64 M.qt else if i = 3 then .int .i64 M.x else if i = 4 then .int .i64 M.y else if i = 5 then .int .i64 M.pt else vb
def Gsl (w : World) (v : Value) (m : Nat) (Ms : Nat → MB) (vb : Nat → Value) : Prop :=
  ∃ a c, v = .slice a m c ∧ m ≤ c ∧ c ≤ maxLen ∧ (m = 0 ∨ ∃ b o, a = some ⟨b, o, none⟩ ∧ ∀ j, j < m → (∀ i, i < 7 → w.cell? ⟨b, o + j * 7 + i, none⟩ = some (mcell (Ms j) (vb j) i)) ∧ MB.raw (Ms j) w (vb j))
theorem Gsl.below {w w' : World} {v : Value} {m : Nat} {Ms : Nat → MB} {vb : Nat → Value} (h : Gsl w v m Ms vb) (hb : Below w.heap.size w w') : Gsl w' v m Ms vb := by
  obtain ⟨a, c, e, h1, h2, h3⟩ := h
  refine ⟨a, c, e, h1, h2, ?_⟩
  rcases h3 with h3 | ⟨b, o, e2, h4⟩
  · exact .inl h3
  · exact .inr ⟨b, o, e2, fun j hj => ⟨fun i hi => (hb.cell (p := ⟨b, o + j * 7 + i, none⟩) (World.block_lt_of_cell? w _ ((h4 j hj).1 i hi))).trans ((h4 j hj).1 i hi), (h4 j hj).2.below hb⟩⟩
abbrev gv (G : GB) (mvv : Value) : Value := .agg #[.int .i64 G.num, .int .i64 G.qt, .slice G.sa G.sN G.sc, mvv]
structure GB.raw (G : GB) (w : World) (v : Value) : Prop where
  sp : Sl .u8 w (.slice G.sa G.sN G.sc) G.sN G.sf
  ms : Gsl w v G.m G.Ms G.vb
theorem GB.raw.below {G : GB} {w w' : World} {v : Value} (h : G.raw w v) (hb : Below w.heap.size w w') : G.raw w' v := ⟨h.sp.below hb, h.ms.below hb⟩
section
variable {H : Type} {enc : TypeId × Value → H} {P : Program} {w : World} {base : Nat} {spare : Nat → Bool} {held : Bool}
theorem open_gsl {t te tb e tp ep : TypeId} {m0 m1 m2 m3 m4 m5 m6 f0 f1 g0 g1 : Field} {fuel : Nat} {x : DataW H × List MemPlace} {v : Value}
    (hs : P.underlying t = some (.slice te)) (hm : P.underlying te = some (.struct #[m0, m1, m2, m3, m4, m5, m6])) (cm : P.cellsOf te = 7)
    (om : m0.offset = 0 ∧ m1.offset = 1 ∧ m2.offset = 2 ∧ m3.offset = 3 ∧ m4.offset = 4 ∧ m5.offset = 5 ∧ m6.offset = 6)
    (km : P.cellsOf m0.type = 1 ∧ P.cellsOf m1.type = 1 ∧ P.cellsOf m2.type = 1 ∧ P.cellsOf m3.type = 1 ∧ P.cellsOf m4.type = 1 ∧ P.cellsOf m5.type = 1 ∧ P.cellsOf m6.type = 1)
    (im : P.underlying m0.type = some (.int .i64) ∧ P.underlying m1.type = some (.int .i64) ∧ P.underlying m2.type = some (.int .i64) ∧ P.underlying m3.type = some (.int .i64) ∧ P.underlying m4.type = some (.int .i64) ∧ P.underlying m5.type = some (.int .i64)) (hb : m6.type = tb)
    (ht : P.underlying tb = some (.slice e)) (he : P.underlying e = some (.struct #[f0, f1])) (ce : P.cellsOf e = 2) (o0 : f0.offset = 0) (o1 : f1.offset = 1) (c0 : P.cellsOf f0.type = 1) (c1 : P.cellsOf f1.type = 1)
    (i0 : P.underlying f0.type = some (.int .i64)) (hp : f1.type = tp)
    (hpt : P.underlying tp = some (.slice ep)) (hpe : P.underlying ep = some (.struct #[g0, g1])) (pe : P.cellsOf ep = 2) (p0 : g0.offset = 0) (p1 : g1.offset = 1) (q0 : P.cellsOf g0.type = 1) (q1 : P.cellsOf g1.type = 1)
    (j0 : P.underlying g0.type = some (.int .i64)) (j1 : P.underlying g1.type = some (.int .i64))
    (h : DataW.trod enc P w base spare held fuel t [v] = some x) : ∃ m Ms vb, Gsl w v m Ms vb := by
  rcases Go.Deep.open_slice hs h with ⟨hcs, _⟩ | ⟨y, ln, cp, m, n, D, Pl, hcs, _, hl, hmx, hmm, _, hall⟩
  · have hv : v = .slice none 0 0 := by simpa using hcs
    exact ⟨0, fun _ => ⟨0, 0, 0, 0, 0, 0, 0, fun _ => 0, fun _ => none, fun _ => 0, fun _ => 0, fun _ _ => 0, fun _ _ => 0⟩, fun _ => undef, none, 0, hv, Nat.le_refl _, Nat.zero_le _, .inl rfl⟩
  · have hv : v = .slice (some y) ln cp := by simpa using hcs
    have hlm : ln ≤ m := by rw [hmm]; split <;> omega
    have each : ∀ i, ∃ z : MB × Value, i < m → (∀ k, k < 7 → w.cell? ((y.add (i * 7)).add k) = some (mcell z.1 z.2 k)) ∧ MB.raw z.1 w z.2 := fun i => by
      by_cases hi : i < m
      · obtain ⟨cs', h1, h2⟩ := hall i hi
        rw [cm] at h1
        obtain ⟨_, hlen, hcell⟩ := World.cells?_some h1
        have h2' : DataW.trod enc P w base spare held n te (Value.agg cs'.toArray).cells.toList = some (D i, Pl i) := h2
        obtain ⟨M, vb, em, hr⟩ := open_macro hm cm om km im hb ht he ce o0 o1 c0 c1 i0 hp hpt hpe pe p0 p1 q0 q1 j0 j1 h2'
        have em : cs' = [.int .i64 M.ad, .int .i64 M.kd, .int .i64 M.qt, .int .i64 M.x, .int .i64 M.y, .int .i64 M.pt, vb] := by
          have := em
          injection this with this
          have := congrArg Array.toList this
          simpa using this
        subst em
        refine ⟨(M, vb), fun _ => ⟨fun k hk => ?_, hr⟩⟩
        rcases (by omega : k = 0 ∨ k = 1 ∨ k = 2 ∨ k = 3 ∨ k = 4 ∨ k = 5 ∨ k = 6) with rfl | rfl | rfl | rfl | rfl | rfl | rfl <;>
        · have := hcell _ (show _ < 7 from hk)
          simpa [mcell] using this
      · exact ⟨(⟨0, 0, 0, 0, 0, 0, 0, fun _ => 0, fun _ => none, fun _ => 0, fun _ => 0, fun _ _ => 0, fun _ _ => 0⟩, undef), fun h => absurd h hi⟩
    obtain ⟨z, hz⟩ : ∃ z : Nat → MB × Value, ∀ i, i < m → (∀ k, k < 7 → w.cell? ((y.add (i * 7)).add k) = some (mcell (z i).1 (z i).2 k)) ∧ MB.raw (z i).1 w (z i).2 := ⟨fun i => Classical.choose (each i), fun i hi => Classical.choose_spec (each i) hi⟩
    refine ⟨ln, fun i => (z i).1, fun i => (z i).2, some y, cp, hv, hl, hmx, ?_⟩
    by_cases h0 : ln = 0
    · exact .inl h0
    · obtain ⟨b, o, sp⟩ := y
      have h1 := (hz 0 (by omega)).1 0 (by omega)
      have hsp : sp = none := by simpa [Addr.add] using World.cell?_spot h1
      subst hsp
      have ad : ∀ j k, ((⟨b, o, none⟩ : Addr).add j).add k = ⟨b, o + j + k, none⟩ := fun j k => by simp only [Addr.add]; split <;> split <;> simp_all <;> omega
      refine .inr ⟨b, o, rfl, fun j hj => ⟨fun i hi => ?_, (hz j (by omega)).2⟩⟩
      have := (hz j (by omega)).1 i hi
      rwa [ad] at this
end
end Bl
end Go.Proofs.YtbmglemjfodfhaaGreat
namespace Go.Proofs.YtbmglemjfodfhaaGreat
open Go.RowKit
namespace Bl
open Bk Fr Pt Kd Bu
def hitB (Ms : Nat → MB) (m j k : Nat) : Bool := decide (j < m) && ((Ms j).ad == (k : Int) + 1)
def nx (Ms : Nat → MB) (m : Nat) : Nat → Nat
  | 0 => 0
  | k + 1 => if hitB Ms m (nx Ms m k) k = true then nx Ms m k + 1 else nx Ms m k
theorem hitB_iff {Ms : Nat → MB} {m j k : Nat} : hitB Ms m j k = true ↔ j < m ∧ (Ms j).ad = (k : Int) + 1 := by unfold hitB; simp
theorem nx_le (Ms : Nat → MB) (m : Nat) : ∀ k, nx Ms m k ≤ m ∧ nx Ms m k ≤ k
  | 0 => ⟨Nat.zero_le _, Nat.le_refl _⟩
  | k + 1 => by
    have ih := nx_le Ms m k
    unfold nx
    split
    · rename_i h
      have := (hitB_iff.1 h).1
      omega
    · omega
def lastA (Ms : Nat → MB) : Nat → Int
  | 0 => 0
  | j + 1 => (Ms j).ad
def rise (Ms : Nat → MB) (k : Nat) : Prop := ∀ j, j < k → (Ms j).e = 0 ∧ lastA Ms j < (Ms j).ad
instance (Ms : Nat → MB) (k : Nat) : Decidable (rise Ms k) := inferInstanceAs (Decidable (∀ j, j < k → _))
def fits (n num : Int) (Ms : Nat → MB) (k : Nat) : Prop := ∀ j, j < k → ¬ (pV (Ms j).kd = true ∧ Mo.vE n num (Ms j).ad (Ms j).x (Ms j).y ≠ 0)
instance (n num : Int) (Ms : Nat → MB) (k : Nat) : Decidable (fits n num Ms k) := inferInstanceAs (Decidable (∀ j, j < k → _))
def gQ (qt : Int) (Ms : Nat → MB) (m : Nat) : Nat → Int
  | 0 => qt
  | k + 1 => if hitB Ms m (nx Ms m k) k = true then (if 0 < (Ms (nx Ms m k)).qt then (Ms (nx Ms m k)).qt else gQ qt Ms m k) else gQ qt Ms m k
def gP (n num : Int) (N NF : Nat) (F f : Nat → Int) (qt : Int) (Ms : Nat → MB) (m : Nat) : Nat → Nat → Int
  | 0 => f
  | k + 1 => if hitB Ms m (nx Ms m k) k = true then macF (Ms (nx Ms m k)) n num ((k : Int) + 1) N NF (gQ qt Ms m (k + 1)) F (gP n num N NF F f qt Ms m k) else Pa.copG n num ((k : Int) + 1) N NF F (gP n num N NF F f qt Ms m k)
theorem gQ_hit {qt : Int} {Ms : Nat → MB} {m k : Nat} (h : hitB Ms m (nx Ms m k) k = true) : gQ qt Ms m (k + 1) = if 0 < (Ms (nx Ms m k)).qt then (Ms (nx Ms m k)).qt else gQ qt Ms m k := if_pos h
theorem gQ_miss {qt : Int} {Ms : Nat → MB} {m k : Nat} (h : hitB Ms m (nx Ms m k) k = false) : gQ qt Ms m (k + 1) = gQ qt Ms m k := if_neg (by simp [h])
theorem gP_hit {n num : Int} {N NF : Nat} {F f : Nat → Int} {qt : Int} {Ms : Nat → MB} {m k : Nat} (h : hitB Ms m (nx Ms m k) k = true) : gP n num N NF F f qt Ms m (k + 1) = macF (Ms (nx Ms m k)) n num ((k : Int) + 1) N NF (gQ qt Ms m (k + 1)) F (gP n num N NF F f qt Ms m k) := if_pos h
theorem gP_miss {n num : Int} {N NF : Nat} {F f : Nat → Int} {qt : Int} {Ms : Nat → MB} {m k : Nat} (h : hitB Ms m (nx Ms m k) k = false) : gP n num N NF F f qt Ms m (k + 1) = Pa.copG n num ((k : Int) + 1) N NF F (gP n num N NF F f qt Ms m k) := if_neg (by simp [h])
theorem nx_hit {Ms : Nat → MB} {m k : Nat} (h : hitB Ms m (nx Ms m k) k = true) : nx Ms m (k + 1) = nx Ms m k + 1 := if_pos h
theorem nx_miss {Ms : Nat → MB} {m k : Nat} (h : hitB Ms m (nx Ms m k) k = false) : nx Ms m (k + 1) = nx Ms m k := if_neg (by simp [h])
theorem qt_pos {M : MB} (h : M.e = 0) : (0 < M.qt) ↔ pQ M.kd = true := by
  cases hz : pQ M.kd
  · have h2 := (ok_parts h).2.1
    unfold MB.bad2 at h2
    simp only [Bool.or_eq_false_iff, Bool.not_eq_false'] at h2
    obtain ⟨⟨⟨⟨⟨k2, _⟩, _⟩, _⟩, _⟩, _⟩ := h2
    unfold MB.qok at k2
    rw [if_neg (by simp [hz])] at k2
    have : M.qt = 0 := by simpa using k2
    simp [this]
  · have := ok_q h hz
    simp; omega
def ShortG (G : GB) : Prop := G.m ≤ 40 ∧ G.sN ≤ 40 ∧ ∀ j, j < G.m → Short (G.Ms j)
def LongGR (G : GB) (w : World) (e : Ending) (w' : World) : Prop := ∃ b : Bool, e = .returned (.bool b) ∧ (b = false → ShortG G) ∧ Below w.heap.size w w'
set_option maxRecDepth 100000 in
set_option maxHeartbeats 4000000 in
theorem LongGroup_any (G : GB) (mvv : Value) (w : World) (h : G.raw w mvv) :
    Calls Tryz.prog 33 #[gv G mvv] w (LongGR G w) := by
  have HB := Lib.hid ((Below.refl w.heap.size w).alloc (Nat.le_refl _) (.cells #[.int .i64 G.num, .int .i64 G.qt, .slice G.sa G.sN G.sc, mvv] 56))
  have H1 : Hid (At _ _ _ _) := Lib.hid (At.new w #[.int .i64 G.num, .int .i64 G.qt, .slice G.sa G.sN G.sc, mvv] 56)
  have HR := Lib.hid (h.ms.below HB.out)
  clear h
  obtain ⟨a, c, hv, h1, h2, h3⟩ := HR.out
  subst hv
  have H3 := Lib.hid h3
  clear HR h3
  go_enter Tryz.func33, Tryz.ntmps33
  go_upto_region 1 with fail
  generalize w.alloc (.cells #[.int .i64 G.num, .int .i64 G.qt, .slice G.sa G.sN G.sc, .slice a G.m c] 56) = W1 at *
  go_wp2_with fail
  go_loopw [3] (fun x wr => ∃ k : Nat, k ≤ G.m ∧ k ≤ 41 ∧ x = .int .i64 k ∧ Hid (Below W1.heap.size W1 wr) ∧ Hid (∀ j, j < k → Short (G.Ms j))) (fun x _ => 41 - (intOf x).toNat)
  case atStart => exact ⟨0, by omega, by omega, rfl, Lib.hid (Below.refl _ _), Lib.hid (fun j hj => by omega)⟩
  case round =>
    obtain ⟨k, hk, hk9, rfl, HW, HK⟩ := hrel
    have H1 := Lib.hid (H1.out.below HW.out)
    have c3 := H1.out.cell 3 _ rfl
    by_cases hkm : k < G.m
    · by_cases hk8 : k < 41
      · have kb : (0 : Int) ≤ (k : Int) ∧ (k : Int) < (G.m : Int) ∧ (k : Int) < 41 := by omega
        have ek : IntKind.i64.wrap ((k : Int) + 1) = (k : Int) + 1 := IntWalk.i64_in _ (by omega)
        rcases H3.out with h0 | ⟨b, o, rfl, hI⟩
        · omega
        obtain ⟨hc, hr⟩ := hI k hkm
        have cc : ∀ i, i < 7 → wr.cell? ⟨b, o + k * 7 + i, none⟩ = some (mcell (G.Ms k) (G.vb k) i) := fun i hi => (HW.out.cell (p := ⟨b, o + k * 7 + i, none⟩) (World.block_lt_of_cell? _ _ (hc i hi))).trans (hc i hi)
        have d0 : wr.cell? ⟨b, o + k * 7, none⟩ = some (.int .i64 (G.Ms k).ad) := cc 0 (by omega)
        have d1 : wr.cell? ⟨b, o + k * 7 + 1, none⟩ = some (.int .i64 (G.Ms k).kd) := cc 1 (by omega)
        have d2 : wr.cell? ⟨b, o + k * 7 + 2, none⟩ = some (.int .i64 (G.Ms k).qt) := cc 2 (by omega)
        have d3 : wr.cell? ⟨b, o + k * 7 + 3, none⟩ = some (.int .i64 (G.Ms k).x) := cc 3 (by omega)
        have d4 : wr.cell? ⟨b, o + k * 7 + 4, none⟩ = some (.int .i64 (G.Ms k).y) := cc 4 (by omega)
        have d5 : wr.cell? ⟨b, o + k * 7 + 5, none⟩ = some (.int .i64 (G.Ms k).pt) := cc 5 (by omega)
        have d6 : wr.cell? ⟨b, o + k * 7 + 6, none⟩ = some (G.vb k) := cc 6 (by omega)
        have LM := Lib.hid (LongMacro_any (G.Ms k) (G.vb k) wr (hr.below HW.out))
        clear hI hc hr cc
        go_wp2_with fail
        refine LM.out.mono ?_
        rintro e w2 ⟨bl, rfl, hsh, b2⟩
        have HSH := Lib.hid hsh
        have HW := Lib.hid (chain HW.out b2)
        clear b2 hsh d0 d1 d2 d3 d4 d5 d6 c3
        cases bl with
        | true =>
          go_wp2_with fail
          go_ret
          exact ⟨true, rfl, (fun h => absurd h (by decide)), chain HB.out HW.out⟩
        | false =>
          have HSM := Lib.hid (HSH.out rfl)
          clear HSH
          go_wp2_with fail
          go_roundw
          case rel => exact ⟨k + 1, by omega, by omega, by go_num, HW, Lib.hid (fun j hj => by
            by_cases e : j = k
            · rw [e]; exact HSM.out
            · exact HK.out j (by omega))⟩
          case measure => simp [intOf]; omega
      · have t1 : ¬ (k : Int) < 41 := by omega
        have t2 : (k : Int) < (G.m : Int) := by omega
        have t3 : (40 : Int) < (G.m : Int) := by omega
        go_wp2_with fail
        go_ret
        exact ⟨true, rfl, (fun h => absurd h (by decide)), chain HB.out HW.out⟩
    · have e : k = G.m := by omega
      have t2 : ¬ (k : Int) < (G.m : Int) := by omega
      have s2 := H1.out.cell 2 _ rfl
      by_cases h8 : G.m ≤ 40
      · have t3 : ¬ (40 : Int) < (G.m : Int) := by omega
        have HS : Hid (∀ j, j < G.m → Short (G.Ms j)) := Lib.hid (fun j hj => HK.out j (by omega))
        by_cases h9 : G.sN ≤ 40
        · have t4 : ¬ (40 : Int) < (G.sN : Int) := by omega
          have e2 : decide ((40 : Int) < (G.sN : Int)) = false := decide_eq_false t4
          go_wp2_with fail
          go_ret
          exact ⟨false, by first | rfl | simp [e2], fun _ => ⟨h8, h9, HS.out⟩, chain HB.out HW.out⟩
        · have t4 : (40 : Int) < (G.sN : Int) := by omega
          have e2 : decide ((40 : Int) < (G.sN : Int)) = true := decide_eq_true t4
          go_wp2_with fail
          go_ret
          exact ⟨true, by first | rfl | simp [e2], (fun h => absurd h (by decide)), chain HB.out HW.out⟩
      · have t3 : (40 : Int) < (G.m : Int) := by omega
        go_wp2_with fail
        go_ret
        exact ⟨true, rfl, (fun h => absurd h (by decide)), chain HB.out HW.out⟩
end Bl
end Go.Proofs.YtbmglemjfodfhaaGreat
namespace Go.Proofs.YtbmglemjfodfhaaGreat
open Go.RowKit Go.Shelf
attribute [local go_sem] Oper.semAt_some
namespace Bl
open Bk Fr Pt Kd Bu
def KpM (B b l : Nat) (W W' : World) : Prop := W.heap.size ≤ W'.heap.size ∧ ∀ i, (B ≤ i ∨ i = b) → i ≠ l → ∀ o : Obj, W.heap[i]? = some o → W'.heap[i]? = some o
theorem kpM_t {B b l : Nat} {X Y Z : World} (h : KpM B b l X Y) (k : KpM B b l Y Z) : KpM B b l X Z := ⟨Nat.le_trans h.1 k.1, fun i hi hl o ho => k.2 i hi hl o (h.2 i hi hl o ho)⟩
theorem kpM_l {B b : Nat} (l : Nat) (W : World) (o o' : Obj) (_ : W.heap[l]? = some o) (_ : o.isCells = false) : KpM B b l W (W.putObj l o') := ⟨by simp, fun i _ hl o2 h2 => (World.putObj_heap_other (by omega)).trans h2⟩
theorem kpM_refl {B b l : Nat} (V : World) : KpM B b l V V := ⟨Nat.le_refl _, fun _ _ _ _ h => h⟩
theorem kpM_cell {B b l : Nat} {V V' : World} (h : KpM B b l V V') (hl : b ≠ l) {o : Nat} {v : Value} (hc : V.cell? ⟨b, o, none⟩ = some v) : V'.cell? ⟨b, o, none⟩ = some v := by
  have hlt := World.block_lt_of_cell? V _ hc
  have := h.2 b (.inr rfl) hl _ (Array.getElem?_eq_getElem hlt)
  have h0 : V.heap[b]? = some V.heap[b] := Array.getElem?_eq_getElem hlt
  simp only [World.cell?, this] at hc ⊢
  rw [h0] at hc
  exact hc
def ptr (b o : Nat) (Ms : Nat → MB) (m k : Nat) : Value := if hitB Ms m (nx Ms m k) k = true then .pointer (some ⟨b, o + nx Ms m k * 7, none⟩) else .pointer none
def encG (b o : Nat) (Ms : Nat → MB) (m : Nat) (x : Fin 33) : Array Value := #[.int .i64 ((x.val : Int) + 1), ptr b o Ms m x.val]
def lv (v : Value) (b o m c j : Nat) : Value := if j = 0 then v else .slice (some ⟨b, o + min j (c - 1) * 7, none⟩) (m - j) (c - j)
theorem lv_in {v : Value} {b o m c j : Nat} (hv : v = .slice (some ⟨b, o, none⟩) m c) (hmc : m ≤ c) (hj : j < m) : lv v b o m c j = .slice (some ⟨b, o + j * 7, none⟩) (m - j) (c - j) := by
  unfold lv
  by_cases h : j = 0
  · subst h; rw [if_pos rfl, hv]; simp
  · rw [if_neg h, show min j (c - 1) = j by omega]
theorem lv_out {v : Value} {a : Option Addr} {b o m c j : Nat} (hv : v = .slice a m c) (hj : j = m) : ∃ x y, lv v b o m c j = .slice x 0 y := by
  unfold lv
  by_cases h : j = 0
  · rw [if_pos h, hv]; exact ⟨a, c, by rw [show m = 0 by omega]⟩
  · rw [if_neg h]; exact ⟨_, _, by rw [hj, Nat.sub_self]⟩
theorem info_macro : (Tryz.prog.info? 24).map (fun i => i.size) = some 7 := by kernel_rfl
theorem slice_mac (b o N c : Nat) (w : World) : (Instr.slice 54 (.slice (some ⟨b, o, none⟩) (N + 1) c) (some (.int .i64 1)) none none).run Tryz.prog w = .ok (sliced (some ⟨b, o, none⟩) 1 (N + 1) c 7) w := by
  have ht : Tryz.prog.underlying 54 = some (.slice (Tryz.prog.elem 54)) := by kernel_rfl
  have he : Tryz.prog.elem 54 = 24 := by kernel_rfl
  obtain ⟨i, hi, hs⟩ := info_size info_macro
  rw [run_slice_l w 54 _ (N + 1) c ht .i64 1 (by omega) (by omega), he]
  have hs : (sizeOf 24).run Tryz.prog w = .ok 7 w := by simp [sizeOf, typeInfo, hi, hs]
  rw [hs]
  rfl
theorem lv_next {v : Value} {b o m c j : Nat} (hv : v = .slice (some ⟨b, o, none⟩) m c) (hmc : m ≤ c) (hj : j < m) (w : World) :
    (Instr.slice 54 (.slice (some ⟨b, o + j * 7, none⟩) (m - j) (c - j)) (some (.int .i64 1)) none none).run Tryz.prog w = .ok (lv v b o m c (j + 1)) w := by
  obtain ⟨N, hN⟩ : ∃ N, m - j = N + 1 := ⟨m - j - 1, by omega⟩
  rw [hN, slice_mac]
  unfold sliced lv
  rw [if_neg (show ¬ j + 1 = 0 by omega), show N + 1 - 1 = m - (j + 1) by omega, show c - j - 1 = c - (j + 1) by omega]
  by_cases h : c - j = 1
  · rw [if_pos h, show min (j + 1) (c - 1) = j by omega]
  · rw [if_neg h, show min (j + 1) (c - 1) = j + 1 by omega]
    have : o + j * 7 + 7 = o + (j + 1) * 7 := by omega
    simp [Addr.add, this]
theorem places_in (v : Value) (a : Option Addr) (m c : Nat) (hv : v = .slice a m c) (mm : Nat) (w : World) :
    CallsIn Fence.wide mm Tryz.prog 76 #[v] w fun e w' => e = .returned (.func (.func 124) #[] #[.pointer (some ⟨w.heap.size, 0, none⟩)]) ∧ w' = w.alloc (.cells #[v] 54) := by
  subst hv
  refine callsIn_wide.2 ?_
  go_enter Tryz.func76, Tryz.ntmps76
  go_wp2
  go_ret
  exact ⟨rfl, rfl⟩
set_option maxRecDepth 100000 in
set_option maxHeartbeats 4000000 in
theorem places1_in (v : Value) (a : Option Addr) (b o m c : Nat) (Ms : Nat → MB) (hv : v = .slice a m c) (ha : 0 < m → a = some ⟨b, o, none⟩) (hmc : m ≤ c) (hcm : c ≤ maxLen) (mm : Nat) (hm : 1 ≤ mm) (l B Bl : Nat) (bl : B ≤ Bl) (ll : Bl ≠ l) (hbl : b ≠ l) (hbB : b ≠ Bl) (J Jx : List (Fin 33) → World → Prop) (W : World)
    (hJo : ∀ pre A C, J pre A → A.grownBy C none → J pre C) (hJB : ∀ pre A C, J pre A → A.grownBy C (some Bl) → J pre C)
    (hY : ∀ pre x W1, J pre W1 → pre.length < 33 → YieldAt Fence.wide (mm - 1) Tryz.prog l (encG b o Ms m x) W1 fun e W' =>
      (e = .returned (.bool true) ∧ J (pre ++ [x]) W' ∧ KpM B b l W1 W') ∨ (e = .returned (.bool false) ∧ Jx (pre ++ [x]) W' ∧ KpM B b l W1 W'))
    (h0 : J [] W) (h1 : Boxed W Bl 54 v) (hG : ∀ j, j < m → W.cell? ⟨b, o + j * 7, none⟩ = some (.int .i64 (Ms j).ad)) :
    CallsIn Fence.wide mm Tryz.prog 124 #[.func (.yield l) #[] #[], .pointer (some ⟨Bl, 0, none⟩)] W fun e W' => (∃ v, e = .returned v) ∧
      ((∃ ys, ys = List.finRange 33 ∧ J ys W') ∨ (∃ pre, pre <+: List.finRange 33 ∧ Jx pre W')) := by
  have H1 := Lib.hid (show Boxed W Bl 54 (lv v b o m c 0) from h1)
  have H0 := Lib.hid h0
  have HG := Lib.hid hG
  have HA := Lib.hid ha
  clear h1 h0 hG ha
  refine callsIn_of_wp Tryz.func124 rfl trivial ?_ rfl
  simp only [Tryz.ntmps124, List.size_toArray, List.length_cons, List.length_nil, Nat.reduceAdd, Nat.reduceSub, Array.replicate_succ, Array.replicate_zero, List.push_toArray, List.append_toArray, List.nil_append, List.cons_append]
  gi_wp2
  gi_loopw [3] (fun i wr => ∃ k : Nat, k ≤ 33 ∧ i = .int .i64 ((k : Int) + 1) ∧ J ((List.finRange 33).take k) wr ∧ Boxed wr Bl 54 (lv v b o m c (nx Ms m k)) ∧ Hid (∀ j, j < m → wr.cell? ⟨b, o + j * 7, none⟩ = some (.int .i64 (Ms j).ad)))
    (fun i _ => 34 - (intOf i).toNat)
  case atStart => exact ⟨0, by omega, rfl, H0.out, H1.out, HG⟩
  case round =>
    obtain ⟨k, hk, rfl, hJk, b1, HC⟩ := hrel
    clear H0 H1 HG
    by_cases hk8 : k < 33
    · have kb : (k : Int) + 1 ≤ 33 := by omega
      have ek : IntKind.i64.wrap ((k : Int) + 1 + 1) = (k : Int) + 1 + 1 := IntWalk.i64_in _ (by omega)
      obtain ⟨x, hx⟩ : ∃ x : Fin 33, x.val = k := ⟨⟨k, hk8⟩, rfl⟩
      have SN : Hid ((List.finRange 33).take (k + 1) = (List.finRange 33).take k ++ [x]) := Lib.hid (by
        rw [List.take_succ_eq_append_getElem (by simp; omega)]
        congr 2
        exact Fin.ext (by simp [hx]))
      have hnx := nx_le Ms m k
      by_cases hh : hitB Ms m (nx Ms m k) k = true
      · obtain ⟨hjm, had⟩ := hitB_iff.1 hh
        have NX := Lib.hid (nx_hit hh)
        have PT : ptr b o Ms m k = .pointer (some ⟨b, o + nx Ms m k * 7, none⟩) := if_pos hh
        obtain ⟨j, hj⟩ : ∃ j, nx Ms m k = j := ⟨_, rfl⟩
        rw [hj] at b1 hjm had PT hnx
        have HNJ := Lib.hid hj
        have ha := HA.out (by omega)
        subst ha
        rw [lv_in hv hmc hjm] at b1
        have sl := fun W => lv_next (b := b) (o := o) hv hmc hjm W
        have c0 : wr.cell? ⟨b, o + j * 7, none⟩ = some (.int .i64 (k + 1)) := by rw [HC.out j hjm, had]
        obtain ⟨q1, q2, q3, hnv⟩ : ∃ x y z, lv v b o m c (j + 1) = .slice x y z := ⟨_, _, _, if_neg (by omega)⟩
        rw [hnv] at sl
        have HNV := Lib.hid hnv
        obtain ⟨R, hR⟩ : ∃ R, m - j = R := ⟨_, rfl⟩
        rw [hR] at b1 sl
        have r0 : (0 : Int) < (R : Int) := by omega
        have r1 : (1 : Int) ≤ (R : Int) := by omega
        have t1 : (((k : Int) + 1) == ((k : Int) + 1)) = true := by simp
        have c1 := b1.cell
        have B1 := Lib.hid b1
        have HJ := Lib.hid hJk
        clear b1 hJk hj had hnv hR hh
        gi_wp2
        have p1 := Past.cell c1
        refine regionIn_head 5 (by kernel_rfl) (by kernel_rfl) ?_
        simp only [List.take_succ_cons, List.take_zero, List.drop_succ_cons, List.drop_zero]
        repeat (go_big_quiet_step (fail))
        refine wpQuiet_nil ?_
        rintro V5 ⟨⟨_, h5⟩, rfl⟩
        have B5 := Lib.hid (B1.out.kept (grown_of_below h5 none) (by simp))
        have g6 := Kd.grown_cell V5 Bl 0 (.slice q1 q2 q3)
        have HJ6 := Lib.hid (hJB _ _ _ (hJo _ _ _ HJ.out (grown_of_below h5 none)) g6)
        have B6 : Hid (Boxed (V5.setCell ⟨Bl, 0, none⟩ (.slice q1 q2 q3)) Bl 54 (.slice q1 q2 q3)) := Lib.hid (B5.out.set (.slice q1 q2 q3))
        have HC6 : Hid (∀ j, j < m → (V5.setCell ⟨Bl, 0, none⟩ (.slice q1 q2 q3)).cell? ⟨b, o + j * 7, none⟩ = some (.int .i64 (Ms j).ad)) := Lib.hid (fun j hj => grown_cell g6 (fun e => hbB (Option.some.inj e)) ((h5.cell (p := ⟨b, o + j * 7, none⟩) (World.block_lt_of_cell? _ _ (HC.out j hj))).trans (HC.out j hj)))
        have hy0 := hY ((List.finRange 33).take k) x (V5.setCell ⟨Bl, 0, none⟩ (.slice q1 q2 q3)) HJ6.out (by simp; omega)
        obtain ⟨fn, tmps, assign, body, hy, _, hR⟩ := yield_wide (r := 0) (m' := mm - 1) hy0
        dsimp only [encG] at hy
        rw [hx, PT] at hy
        have c5 := B5.out.cell
        have f5 := B5.out.frozen
        clear p1 c1 B1 HJ HC h5 g6 hy0 PT c0
        gi_wp2
        refine hR.mono ?_
        rintro e W3 (⟨rfl, hJ3, hK3⟩ | ⟨rfl, hJx3, hK3⟩)
        · gi_wp2
          go_roundw
          case rel => exact ⟨k + 1, by omega, by go_num, by rw [SN.out]; exact hJ3, by rw [NX.out, HNJ.out, HNV.out]; exact hK3.2 Bl (.inl bl) ll _ B6.out, Lib.hid (fun j hj => kpM_cell hK3 hbl (HC6.out j hj))⟩
          case measure => simp [intOf]; omega
        · gi_wp2
          refine bodyPost_ret (results_none rfl _ _ _) rfl ?_
          exact ⟨⟨_, rfl⟩, .inr ⟨(List.finRange 33).take (k + 1), List.take_prefix _ _, by rw [SN.out]; exact hJx3⟩⟩
      · have hh' : hitB Ms m (nx Ms m k) k = false := by simpa using hh
        have NX := Lib.hid (nx_miss hh')
        have PT : ptr b o Ms m k = .pointer none := if_neg hh
        obtain ⟨j, hj⟩ : ∃ j, nx Ms m k = j := ⟨_, rfl⟩
        rw [hj] at b1 hh hnx
        have HNJ := Lib.hid hj
        have hy0 := hY ((List.finRange 33).take k) x wr hJk (by simp; omega)
        obtain ⟨fn, tmps, assign, body, hy, _, hR⟩ := yield_wide (r := 0) (m' := mm - 1) hy0
        dsimp only [encG] at hy
        rw [hx, PT] at hy
        have B1 := Lib.hid b1
        clear hy0 PT hJk hh' hj
        by_cases hjm : j < m
        · have ha := HA.out (by omega)
          subst ha
          have had : (Ms j).ad ≠ (k : Int) + 1 := fun e => hh (hitB_iff.2 ⟨hjm, e⟩)
          rw [lv_in hv hmc hjm] at b1
          have c0 := HC.out j hjm
          obtain ⟨AD, hAD⟩ : ∃ x, (Ms j).ad = x := ⟨_, rfl⟩
          rw [hAD] at c0 had
          obtain ⟨R, hR'⟩ : ∃ R, m - j = R := ⟨_, rfl⟩
          rw [hR'] at b1
          have r0 : (0 : Int) < (R : Int) := by omega
          have t1 : (AD == ((k : Int) + 1)) = false := by simpa using had
          have c1 := b1.cell
          clear b1 had hAD hR' hh
          gi_wp2
          refine hR.mono ?_
          rintro e W3 (⟨rfl, hJ3, hK3⟩ | ⟨rfl, hJx3, hK3⟩)
          · gi_wp2
            go_roundw
            case rel => exact ⟨k + 1, by omega, by go_num, by rw [SN.out]; exact hJ3, by rw [NX.out, HNJ.out]; exact hK3.2 Bl (.inl bl) ll _ B1.out, Lib.hid (fun j hj => kpM_cell hK3 hbl (HC.out j hj))⟩
            case measure => simp [intOf]; omega
          · gi_wp2
            refine bodyPost_ret (results_none rfl _ _ _) rfl ?_
            exact ⟨⟨_, rfl⟩, .inr ⟨(List.finRange 33).take (k + 1), List.take_prefix _ _, by rw [SN.out]; exact hJx3⟩⟩
        · obtain ⟨x1, y1, hl⟩ := lv_out (b := b) (o := o) (j := j) hv (by omega)
          rw [hl] at b1
          have c1 := b1.cell
          clear b1 hl hh
          gi_wp2
          refine hR.mono ?_
          rintro e W3 (⟨rfl, hJ3, hK3⟩ | ⟨rfl, hJx3, hK3⟩)
          · gi_wp2
            go_roundw
            case rel => exact ⟨k + 1, by omega, by go_num, by rw [SN.out]; exact hJ3, by rw [NX.out, HNJ.out]; exact hK3.2 Bl (.inl bl) ll _ B1.out, Lib.hid (fun j hj => kpM_cell hK3 hbl (HC.out j hj))⟩
            case measure => simp [intOf]; omega
          · gi_wp2
            refine bodyPost_ret (results_none rfl _ _ _) rfl ?_
            exact ⟨⟨_, rfl⟩, .inr ⟨(List.finRange 33).take (k + 1), List.take_prefix _ _, by rw [SN.out]; exact hJx3⟩⟩
    · have hJ8 : J (List.finRange 33) wr := by
        obtain rfl : k = 33 := by omega
        rwa [List.take_of_length_le (by simp)] at hJk
      have kb : ¬ (k : Int) + 1 ≤ 33 := by omega
      clear hJk b1
      have HJ := Lib.hid hJ8
      clear hJ8
      gi_wp2
      go_end0
      first | exact ⟨⟨_, rfl⟩, .inl ⟨_, rfl, HJ.out⟩⟩ | exact ⟨⟨_, rfl⟩, .inl HJ.out⟩
end Bl
end Go.Proofs.YtbmglemjfodfhaaGreat
