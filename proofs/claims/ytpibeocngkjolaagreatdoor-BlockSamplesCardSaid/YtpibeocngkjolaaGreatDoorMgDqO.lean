/- law12: of. | law12: awake. | law12: BlockKnown. | law12: BlockFlat. | law12: BlockPuts, BlockSamples. | law12: BlockGets. | law12: BlockBack. | law12: BlockAgain. | law12: all of it. -/
import Derived.Test.YtpibeocngkjolaaGreatDoorMgCfB
import Derived.Test.YtpibeocngkjolaaGreatDoorMgCiK
import Derived.Test.YtpibeocngkjolaaGreatDoorMgDpV
import Derived.Test.YtpibeocngkjolaaGreatDoorMgDpX3
import Derived.Test.YtpibeocngkjolaaGreatDoorMgDqD
import Derived.Test.YtpibeocngkjolaaGreatDoorMgDqN
import Derived.Test.YtpibeocngkjolaaGreatDoorMgDqY
import Derived.Test.YtpibeocngkjolaaGreatDoorMgPick
import Derived.BigQuiet
import Derived.Deep.AppendLies
import Derived.Deep.RegionHeld3
import Derived.Deep.RegionLaw
set_option linter.unusedVariables false
set_option linter.unusedSimpArgs false

namespace Go.Proofs.YtpibeocngkjolaaGreatDoor
open Go.RowKit Go.Shelf
set_option linter.unusedSimpArgs false
set_option linter.unusedVariables false
namespace Dk
open Cf Bk Sc
theorem results_blk {fn : Func} {p : Tmp} (hr : fn.results = #[.cell p 27]) (tmps : Array Value) {B : Nat} {V : World} {dc : Int} {q : Option Addr} {n c : Nat}
    (hp : tmps.getD p undef = .pointer (some ⟨B, 0, none⟩)) (h : At V B #[.int .i64 dc, .slice q n c] 27) :
    (results fn tmps).run Tryz.prog V = .ok (bv dc q n c) V := by
  have c0 := h.cell 0 _ rfl
  have c1 := h.cell 1 _ rfl
  have hp' : tmps[p]?.getD undef = .pointer (some ⟨B, 0, none⟩) := by simpa using hp
  simp at c0 c1
  simp [results, hr, hp', asAddr, loadVar, go_sem, c0, c1, Tryz.underlying27, Tryz.underlying25, Tryz.underlying3]
section
set_option maxRecDepth 100000
set_option maxHeartbeats 4000000
theorem of_nil (dc : Int) (w : World) : Calls Tryz.prog 29 #[.int .i64 dc, .slice none 0 0] w fun e w' => e = .returned (bv dc none 0 0) ∧ Below w.heap.size w w' := by
  have HR := Lib.hid (RB.new w dc (fun _ => 0) (fun _ => 0))
  go_enter Tryz.func29, Tryz.ntmps29
  go_upto_region 2 with fail
  generalize (w.alloc _).alloc _ = V at *
  have j0 := HR.out.x.cell 0 _ rfl
  have j1 := HR.out.x.cell 1 _ rfl
  have d0 := HR.out.z.cell 0 _ rfl
  have d1 := HR.out.z.cell 1 _ rfl
  have f0 := frozen_of_row HR.out.z 0
  have f1 := frozen_of_row HR.out.z 1
  go_wp2_with fail
  go_loopw [6] (fun i wr => i = .int .i64 0 ∧ wr = V) (fun _ _ => 0)
  case atStart => exact ⟨rfl, rfl⟩
  case round =>
    obtain ⟨rfl, rfl⟩ := hrel
    go_wp2_with fail
    have HW := HR.out.wr dc none 0 0
    refine bodyPost_ret (results_blk rfl _ rfl HW.1) rfl ?_
    exact ⟨rfl, HW.2.1⟩
/-- what 'of' makes of numbers in turn. -/
def OfTo (w : World) (dc : Int) (n : Nat) (f : Nat → Int) (e : Ending) (w' : World) : Prop :=
  ∃ q c, e = .returned (bv dc q n c) ∧ OwnP w' w.heap.size (.slice q n c) n (fun j => f (2 * j)) (fun j => f (2 * j + 1)) ∧ Below w.heap.size w w'
theorem of_any (dc : Int) (b o n : Nat) (c : Nat) (f : Nat → Int) (w : World) (hn : n ≤ 100) (hbl : b < w.heap.size) (hI : Ints w .i64 b o (2 * n) f) :
    Calls Tryz.prog 29 #[.int .i64 dc, .slice (some ⟨b, o, none⟩) ((2 * n : Nat) : Nat) c] w (OfTo w dc n f) := by
  obtain ⟨i0, hi, hz0, hz1, hz2⟩ := info_parts info_pair
  have HR0 := Lib.hid (RB.new w dc (fun j => f (2 * j)) (fun j => f (2 * j + 1)))
  have HI := Lib.hid hI
  unfold OfTo
  clear hI
  go_enter Tryz.func29, Tryz.ntmps29
  go_upto_region 2 with fail
  generalize (w.alloc _).alloc _ = V at *
  go_wp2_with fail
  go_loopw [6] (fun i wr => ∃ (k : Nat) (q : Option Addr) (cc : Nat), k ≤ n ∧ i = .int .i64 ((2 * k : Nat) : Int) ∧ Hid (RB w dc q k cc (fun j => f (2 * j)) (fun j => f (2 * j + 1)) wr)) (fun i _ => 2 * n - (intOf i).toNat)
  case atStart => exact ⟨0, none, 0, by omega, rfl, HR0⟩
  case round =>
    obtain ⟨k, q, cc, hk, rfl, HR⟩ := hrel
    clear HR0
    by_cases hkn : k < n
    · obtain ⟨p, hp⟩ : ∃ p, 2 * k = p := ⟨_, rfl⟩
      have hIR := HI.out.below HR.out.b hbl
      have cx := hIR p (by omega)
      have cy := hIR (p + 1) (by omega)
      have HE : Hid (f (2 * k) = f p ∧ f (2 * k + 1) = f (p + 1)) := Lib.hid (by rw [hp]; exact ⟨rfl, rfl⟩)
      obtain ⟨x, hx⟩ : ∃ x, f p = x := ⟨_, rfl⟩
      obtain ⟨y, hy⟩ : ∃ x, f (p + 1) = x := ⟨_, rfl⟩
      rw [hx] at cx HE
      rw [hy] at cy HE
      obtain ⟨M, hM⟩ : ∃ M, 2 * n = M := ⟨_, rfl⟩
      have HPC2 := Lib.hid (show pcs (fun j => f (2 * j)) (fun j => f (2 * j + 1)) (k + 1) = pcs (fun j => f (2 * j)) (fun j => f (2 * j + 1)) k ++ [.int .i64 x, .int .i64 y] from by rw [pcs_next]; simp only [HE.out.1, HE.out.2])
      have HPK := Lib.hid (show ((2 * (k + 1) : Nat) : Int) = (p : Int) + 2 by omega)
      rw [hp, hM]
      have hpM : p + 1 < M := by omega
      have hM200 : M ≤ 200 := by omega
      have hk100 : k + 1 ≤ 100 := by omega
      have ck := HR.out.x.cell 1 _ rfl
      have zb := HR.out.b.size
      have zx := HR.out.x.lt
      have hb2 : b < wr.heap.size := Nat.lt_of_lt_of_le hbl zb
      have t1 : (p : Int) + 1 < (M : Int) := by omega
      have t0 : (0 : Int) ≤ (p : Int) := by omega
      have t2 : (p : Int) < (M : Int) := by omega
      have t3 : (0 : Int) ≤ (p : Int) + 1 := by omega
      have t4 : ((p : Int) + 1).toNat = p + 1 := by omega
      have e3 : IntKind.i64.wrap ((p : Int) + 1) = (p : Int) + 1 := IntWalk.i64_in _ (by omega)
      have hne : (Value.slice q k cc).ownBlock ≠ some b := fun e => by have := (HR.out.o.lt b e).1; omega
      have hne2 : (Value.slice q k cc).ownBlock ≠ some (w.heap.size + 1) := fun e => by have := (HR.out.o.lt _ e).1; omega
      have z1 : k + 1 ≤ maxLen := by unfold maxLen; omega
      have z2 : (k + 1) * 16 ≤ 140737488355328 := by omega
      have XA := Lib.hid (HR.out.x.below ((Below.refl _ wr).alloc (Nat.le_refl _) (.cells #[.int .i64 x, .int .i64 y] 69)).drew)
      clear hx hy hp hM hIR
      go_wp2_with fail
      go_region_law
        ((refine step_append_lies _ (by rfl) _ _ _ (by rfl) (w.heap.size + 2) 69 i0 _ 2 16 Tryz.underlying25 hi hz0 hz1 hz2 rfl (by omega) (.slice q k cc) k (pcs (fun j => f (2 * j)) (fun j => f (2 * j + 1)) k) (by rfl) ((HR.out.o.alloc _).drew) ⟨wr.heap.size, 0, none⟩ 1 1 [.int .i64 x, .int .i64 y] (by rfl) (by rfl) (World.news_of_block (cs := #[.int .i64 x, .int .i64 y]) (t := 69) (fr := (0, 0)) (heap_alloc_new wr _)) (by simp [Value.oneCell']) (by omega) z1 z2 (by simp; omega) (wr.heap.size + 1) (by simp) ?_; intro gg cap w1 hown2 hgrow hat hlt; have hx1 := At.kept XA.out hgrow (Ne.symm hne2); have f9 := frozen_of_row hx1 1; have c9 := hx1.cell 1 _ rfl))
      all_goals
        rw [← HPC2.out] at hown2
        have HX := HR.out.push (o := .cells #[.int .i64 x, .int .i64 y] 69) hown2 ⟨hgrow.os, hgrow.tape, hgrow.output, hgrow.size, hgrow.block⟩
        obtain ⟨q', c', he, HR5, _⟩ := HX
        injection he with e5 e6 e7
        subst e5 e7
        have HR6 := Lib.hid HR5
        clear hown2 hgrow hat hx1 f9 c9 cx cy ck HR5 t1 t0 t2 t3 t4 e3
        go_wp2_with fail
        go_roundw
        case rel => exact ⟨k + 1, _, _, by omega, by rw [HPK.out], HR6⟩
        case measure => simp [intOf]; omega
    · obtain rfl : k = n := by omega
      obtain ⟨M, hM⟩ : ∃ M, 2 * k = M := ⟨_, rfl⟩
      have hM200 : M ≤ 200 := by omega
      rw [hM]
      have t1 : ¬ (M : Int) + 1 < (M : Int) := by omega
      have e1 : wrap64 ((M : Int) + 1) = (M : Int) + 1 := w64 (by omega)
      have j0 := HR.out.x.cell 0 _ rfl
      have j1 := HR.out.x.cell 1 _ rfl
      have d0 := HR.out.z.cell 0 _ rfl
      have d1 := HR.out.z.cell 1 _ rfl
      have f0 := frozen_of_row HR.out.z 0
      have f1 := frozen_of_row HR.out.z 1
      clear hM
      go_wp2_with fail
      have HW := HR.out.wr dc q k cc
      refine bodyPost_ret (results_blk rfl _ rfl HW.1) rfl ?_
      exact ⟨q, cc, rfl, HW.2.2, HW.2.1⟩
end
end Dk
end Go.Proofs.YtpibeocngkjolaaGreatDoor

namespace Go.Proofs.YtpibeocngkjolaaGreatDoor
open Go.RowKit Go.Shelf
set_option linter.unusedSimpArgs false
set_option linter.unusedVariables false
namespace Dk
open Cf Bk Sc Qu Co
/-- runs and levels in turn. -/
def lsF (xs : List Int) : Nat → Int := fun i => xs.getD i 0
abbrev rR (xs : List Int) : Nat → Int := fun j => lsF xs (2 * j)
abbrev lL (xs : List Int) : Nat → Int := fun j => lsF xs (2 * j + 1)
theorem known_p1 : bE 5 0 (fun _ => 0) (fun _ => 0) true = 0 := by decide +kernel
theorem known_b1 : ptB 5 0 (fun _ => 0) (fun _ => 0) true = [false, false, false, false, false, true, false, true, true, false] := by decide +kernel
theorem known_c1 : bE 1 1 (rR [63, 1]) (lL [63, 1]) true = 11 := by decide +kernel
theorem known_g1 : gg (byF [180]) 1 true 0 0 = ⟨0, 1, false, 2, 0⟩ := by decide +kernel
theorem known_g2 : gg (byF [180]) 1 true 0 1 = ⟨0, 1, false, 3, 0⟩ := by decide +kernel
theorem known_g3 : gg (byF [180]) 1 true 0 2 = ⟨0, 0, true, 2, 0⟩ := by decide +kernel
theorem known_g4 : gp (byF [180]) 1 true 0 3 = 7 := by decide +kernel
theorem known_l1 : pl (byF [180]) 1 true 0 1 = 1 := by decide +kernel
theorem known_gb1 : GB (byF [180]) 1 0 false 0 0 2 7 ∧ ∀ j, j < 2 → (gg (byF [180]) 1 (!false) (hP 0 false) j).r = rR [0, 1, 0, 1] j ∧ (gg (byF [180]) 1 (!false) (hP 0 false) j).l = lL [0, 1, 0, 1] j := by
  have hn : ¬ okG (byF [180]) 1 true 0 2 := fun h => by
    have h2 := h.2.1
    rw [known_g3] at h2
    exact absurd h2 (by decide)
  have hy : ∀ j, j < 2 → okG (byF [180]) 1 true 0 j := fun j hj => by
    rcases (by omega : j = 0 ∨ j = 1) with rfl | rfl
    · exact ⟨by rw [known_g1], by rw [known_g1], by rw [known_g1]; exact (by decide : (0 : Int) + 0 ≤ 63)⟩
    · exact ⟨by rw [known_g2], by rw [known_g2], by rw [known_g2, known_l1]; exact (by decide : (1 : Int) + 0 ≤ 63)⟩
  have hg : gE (byF [180]) 1 true 0 2 = 0 := by unfold gE; rw [known_g3]; rfl
  have hb : (7 : Int) = gp (byF [180]) 1 true 0 3 - 0 := by rw [known_g4]; rfl
  refine ⟨.inr ⟨rfl, 2, ⟨hy, hn⟩, .inr ⟨hg, rfl, rfl, rfl, hb⟩⟩, fun j hj => ?_⟩
  rcases (by omega : j = 0 ∨ j = 1) with rfl | rfl
  · show (gg (byF [180]) 1 true 0 0).r = 0 ∧ (gg (byF [180]) 1 true 0 0).l = 1
    rw [known_g1]
    exact ⟨rfl, rfl⟩
  · show (gg (byF [180]) 1 true 0 1).r = 0 ∧ (gg (byF [180]) 1 true 0 1).l = 1
    rw [known_g2]
    exact ⟨rfl, rfl⟩
theorem lsF_ints (xs : List Int) (W : World) (cs : Array Value) (hc : cs = (xs.map fun x : Int => Value.int .i64 x).toArray) : Ints (W.alloc (.cells cs 3)) .i64 W.heap.size 0 xs.length (lsF xs) := by
  refine (Arr.new W .i64 cs _ xs.length (lsF xs) fun i hi => ?_).ints
  subst hc
  simp [lsF, hi]
section
set_option maxRecDepth 100000
set_option maxHeartbeats 4000000
theorem of_new (dc : Int) (xs : List Int) (n : Nat) (cs : Array Value) (k : Nat) (W : World) (hc : cs = (xs.map fun x : Int => Value.int .i64 x).toArray) (hk : xs.length = k) (hl : k = 2 * n) (hn : n ≤ 100) :
    Calls Tryz.prog 29 #[.int .i64 dc, .slice (some ⟨W.heap.size, 0, none⟩) k k] (W.alloc (.cells cs 3)) fun e w' => ∃ q c, e = .returned (bv dc q n c) ∧ Pl w' (.slice q n c) n (rR xs) (lL xs) ∧ Below W.heap.size W w' := by
  have hB : Below W.heap.size W (W.alloc (.cells cs 3)) := (Below.refl _ W).alloc (Nat.le_refl _) _
  have hI := lsF_ints xs W cs hc
  rw [hk, hl] at hI
  subst hl
  refine (of_any dc W.heap.size 0 n (2 * n) (lsF xs) _ hn (by simp) hI).mono ?_
  rintro e w' ⟨q, c, rfl, ho, hb⟩
  exact ⟨q, c, rfl, ho.pl, chain hB hb⟩
theorem bytes_new (bs : List Nat) (cs : Array Value) (W : World) (hc : cs = (bs.map fun x : Nat => Value.int .u8 (x : Int)).toArray) (hl : bs.length ≤ 3) (hb : ∀ x ∈ bs, x ≤ 255) :
    Sl .u8 (W.alloc (.cells cs 5)) (.slice (some ⟨W.heap.size, 0, none⟩) bs.length bs.length) bs.length (byF bs) ∧ ∀ j, j < bs.length → 0 ≤ byF bs j ∧ byF bs j ≤ 255 := by
  refine ⟨byF_sl bs W cs hc (by unfold maxLen; omega), fun j hj => ?_⟩
  unfold byF
  have : bs.getD j 0 ∈ bs := by rw [List.getD_eq_getElem?_getD, List.getElem?_eq_getElem hj]; exact List.getElem_mem _
  have := hb _ this
  omega
theorem gets_new (intra : Bool) (dc : Int) (q : Option Addr) (n c : Nat) (r l : Nat → Int) (b E : Int) (bs : List Nat) (cs : Array Value) (k : Nat) (W : World) (hn : n ≤ 1000) (hp : Pl W (.slice q n c) n r l) (hT : Tabs W) (hc : cs = (bs.map fun x : Nat => Value.int .u8 (x : Int)).toArray) (hk : bs.length = k) (hl : bs.length ≤ 3) (hb : ∀ x ∈ bs, x ≤ 255)
    (h : GB (byF bs) bs.length 0 intra E dc n b ∧ ∀ j, j < n → (gg (byF bs) bs.length (!intra) (hP 0 intra) j).r = r j ∧ (gg (byF bs) bs.length (!intra) (hP 0 intra) j).l = l j) :
    Calls Tryz.prog 30 #[.bool intra, bv dc q n c, .int .i64 b, .int .i64 E, .slice (some ⟨W.heap.size, 0, none⟩) k k] (W.alloc (.cells cs 5)) fun e w' => e = .returned (.bool true) ∧ Below W.heap.size W w' := by
  subst hk
  have hB : Below W.heap.size W (W.alloc (.cells cs 5)) := (Below.refl _ W).alloc (Nat.le_refl _) _
  obtain ⟨s1, s2⟩ := bytes_new bs cs W hc hl hb
  exact (gets_any intra dc q n c r l b E _ bs.length (byF bs) _ hn (by omega) (hp.below hB) s1 s2 (hT.below hB) h.1 h.2).mono fun e w' ⟨h1, h2⟩ => ⟨h1, chain hB h2⟩
theorem pl_nil (W : World) (r l : Nat → Int) : Pl W (.slice none 0 0) 0 r l := (ownP_nil W 0 r l).pl
theorem awake12_any (w : World) (hT : Tabs w) : Calls Tryz.prog 10 #[] w fun e w' => e = .returned (.bool true) ∧ Below w.heap.size w w' := by
  have A := Lib.hid (AW.new hT)
  clear hT
  have HP1 := Lib.hid (fun W (hT : Tabs W) => puts_any 5 none 0 0 (fun _ => 0) (fun _ => 0) true 0 ⟨#[48, 48, 48, 48, 48, 49, 48, 49, 49, 48]⟩ W (by omega) (pl_nil W _ _) hT known_p1 (by rw [known_p1, if_pos rfl, known_b1]; rfl))
  have HF := Lib.hid (fun W => flat_any 5 7 W (by decide) (by decide) (by decide) (by decide) (by decide))
  rw [if_neg (by decide)] at HF
  have HCK := Lib.hid (fun W q c (h : Pl W (.slice q 1 c) 1 (rR [63, 1]) (lL [63, 1])) => Check_any 1 q 1 c (rR [63, 1]) (lL [63, 1]) true (by omega) W h)
  rw [known_c1] at HCK
  go_enter Tryz.func10, Tryz.ntmps10
  go_wp2_with (first
    | (go_at_call_of 29 (Value.int IntKind.i64 5); refine (of_nil 5 _).mono ?_; rintro e w1 ⟨rfl, h1⟩; have A := Lib.hid (A.out.below h1); clear h1)
    | (go_at_call 28; refine (HP1.out _ A.out.t).mono ?_; rintro e w1 ⟨rfl, h1⟩; have A := Lib.hid (A.out.below h1); clear h1)
    | (go_at_call_of 29 (Value.int IntKind.i64 0); refine (of_new 0 [0, 1, 0, 1] 2 _ 4 _ (by rfl) rfl rfl (by decide)).mono ?_; rintro e w1 ⟨q2, c2, rfl, p1, h1⟩; have A := Lib.hid (A.out.below h1); have P2 := Lib.hid p1; clear h1 p1)
    | (go_at_call 30; refine (gets_new false 0 q2 2 c2 _ _ 7 0 [180] _ 1 _ (by omega) P2.out A.out.t (by rfl) rfl (by decide) (by decide) known_gb1).mono ?_; rintro e w1 ⟨rfl, h1⟩; have A := Lib.hid (A.out.below h1); clear h1)
    | (go_at_call_of 29 (Value.int IntKind.i64 1); refine (of_new 1 [63, 1] 1 _ 2 _ (by rfl) rfl rfl (by decide)).mono ?_; rintro e w1 ⟨q3, c3, rfl, p1, h1⟩; have A := Lib.hid (A.out.below h1); have P3 := Lib.hid p1; clear h1 p1)
    | (go_at_call 23; refine (HCK.out _ _ _ P3.out).mono ?_; rintro e w1 ⟨rfl, h1⟩; have A := Lib.hid (A.out.below h1); clear h1)
    | (go_at_call 31; refine (HF.out _).mono ?_; rintro e w1 ⟨rfl, h1⟩; have A := Lib.hid (A.out.below h1); clear h1))
  go_ret
  exact ⟨rfl, A.out.b⟩
end
end Dk
end Go.Proofs.YtpibeocngkjolaaGreatDoor

namespace Go.Proofs.YtpibeocngkjolaaGreatDoor
open Go.RowKit Go.Shelf
set_option linter.unusedSimpArgs false
set_option linter.unusedVariables false
namespace Dk
open Cf Bk Sc Qu Co
theorem known_u1 : bE 0 2 (rR [0, 1, 0, 1]) (lL [0, 1, 0, 1]) false = 0 := by decide +kernel
theorem known_u1b : ptB 0 2 (rR [0, 1, 0, 1]) (lL [0, 1, 0, 1]) false = [true, false, true, true, false, true, false] := by decide +kernel
theorem known_u2 : bE 0 0 (fun _ => 0) (fun _ => 0) false = 2 := by decide +kernel
theorem known_u3 : bE 128 0 (fun _ => 0) (fun _ => 0) true = 10 := by decide +kernel
theorem known_cc1 : bE 1 1 (rR [62, 1]) (lL [62, 1]) true = 0 := by decide +kernel
theorem known_cc2 : bE 0 1 (rR [63, 1]) (lL [63, 1]) false = 0 := by decide +kernel
theorem known_cc3 : bE 0 2 (rR [63, 1, 0, 1]) (lL [63, 1, 0, 1]) false = 11 := by decide +kernel
theorem known_rs : rsE 5 0 (fun _ => 0) (fun _ => 0) true 0 = 3 := by decide +kernel
theorem known_lv : bE 0 1 (rR [1, -2]) (lL [1, -2]) false = 0 := by decide +kernel
theorem known_ln : lN 0 1 (rR [1, -2]) (lL [1, -2]) false = 64 := by decide +kernel
theorem known_s0 : spF (fst false) (rR [1, -2]) (lL [1, -2]) 1 0 = 0 := by decide +kernel
theorem known_s1 : spF (fst false) (rR [1, -2]) (lL [1, -2]) 1 1 = -2 := by decide +kernel
theorem known_s2 : spF (fst false) (rR [1, -2]) (lL [1, -2]) 1 2 = 0 := by decide +kernel
theorem gets_no {F : Nat → Int} {N : Nat} {E : Int} {r l : Nat → Int} (h : GB F N 0 true E 0 0 0) : GB F N 0 true E 0 0 0 ∧ ∀ j, j < 0 → (gg F N (!true) (hP 0 true) j).r = r j ∧ (gg F N (!true) (hP 0 true) j).l = l j := ⟨h, fun j hj => by omega⟩
theorem known_x1 : gg (byF [5, 128]) 2 false 8 0 = ⟨0, 0, true, 2, 0⟩ := by decide +kernel
theorem known_x2 : gp (byF [5, 128]) 2 false 8 1 = 10 := by decide +kernel
theorem known_x3 : Dk.hE (byF [5, 128]) 2 0 true = 0 := by decide +kernel
theorem known_x4 : hD (byF [5, 128]) 0 true = 5 := by decide +kernel
theorem known_gets1 : GB (byF [5, 128]) 2 0 true 0 5 0 10 ∧ ∀ j, j < 0 → (gg (byF [5, 128]) 2 (!true) (hP 0 true) j).r = (fun _ => 0) j ∧ (gg (byF [5, 128]) 2 (!true) (hP 0 true) j).l = (fun _ => 0) j := by
  have hn : ¬ okG (byF [5, 128]) 2 false 8 0 := fun h => by
    have h2 := h.2.1
    rw [known_x1] at h2
    exact absurd h2 (by decide)
  have hg : gE (byF [5, 128]) 2 false 8 0 = 0 := by unfold gE; rw [known_x1]; rfl
  have hb : (10 : Int) = gp (byF [5, 128]) 2 false 8 1 - 0 := by rw [known_x2]; rfl
  exact ⟨.inr ⟨known_x3, 0, ⟨fun j hj => by omega, hn⟩, .inr ⟨hg, rfl, known_x4.symm, rfl, hb⟩⟩, fun j hj => by omega⟩
theorem known_y1 : Dk.hE (byF [128, 0]) 2 0 true = 10 := by decide +kernel
theorem known_gets2 : GB (byF [128, 0]) 2 0 true 10 0 0 0 ∧ ∀ j, j < 0 → (gg (byF [128, 0]) 2 (!true) (hP 0 true) j).r = (fun _ => 0) j ∧ (gg (byF [128, 0]) 2 (!true) (hP 0 true) j).l = (fun _ => 0) j :=
  gets_no (.inl ⟨by rw [known_y1]; decide, known_y1.symm, rfl, rfl, rfl⟩)
theorem known_z1 : gg (byF [5]) 1 false 8 0 = ⟨0, 0, false, 0, 5⟩ := by decide +kernel
theorem known_z2 : Dk.hE (byF [5]) 1 0 true = 0 := by decide +kernel
theorem known_gets3 : GB (byF [5]) 1 0 true 5 0 0 0 ∧ ∀ j, j < 0 → (gg (byF [5]) 1 (!true) (hP 0 true) j).r = (fun _ => 0) j ∧ (gg (byF [5]) 1 (!true) (hP 0 true) j).l = (fun _ => 0) j := by
  have hn : ¬ okG (byF [5]) 1 false 8 0 := fun h => by
    have h2 := h.1
    rw [known_z1] at h2
    exact absurd h2 (by decide)
  have hg : gE (byF [5]) 1 false 8 0 = 5 := by unfold gE; rw [known_z1]; rfl
  exact gets_no (.inr ⟨known_z2, 0, ⟨fun j hj => by omega, hn⟩, .inl ⟨by show gE (byF [5]) 1 false 8 0 ≠ 0; rw [hg]; decide, hg.symm, rfl, rfl, rfl⟩⟩)
section
set_option maxRecDepth 100000
set_option maxHeartbeats 4000000
theorem BlockKnown_any (w : World) (hT : Tabs w) : Calls Tryz.prog 6 #[] w fun e w' => e = .returned (.bool true) ∧ Below w.heap.size w w' := by
  have A := Lib.hid (AW.new hT)
  clear hT
  have HU1 := Lib.hid (fun W q c (h : Pl W (.slice q 2 c) 2 (rR [0, 1, 0, 1]) (lL [0, 1, 0, 1])) (hT : Tabs W) => puts_any 0 q 2 c _ _ false 0 ⟨#[49, 48, 49, 49, 48, 49, 48]⟩ W (by omega) h hT known_u1 (by rw [known_u1, if_pos rfl, known_u1b]; rfl))
  have HU2 := Lib.hid (fun W (hT : Tabs W) => puts_any 0 none 0 0 (fun _ => 0) (fun _ => 0) false 2 ⟨#[]⟩ W (by omega) (pl_nil W _ _) hT known_u2 (by rw [known_u2, if_neg (by decide)]; rfl))
  have HU3 := Lib.hid (fun W (hT : Tabs W) => puts_any 128 none 0 0 (fun _ => 0) (fun _ => 0) true 10 ⟨#[]⟩ W (by omega) (pl_nil W _ _) hT known_u3 (by rw [known_u3, if_neg (by decide)]; rfl))
  have HC1 := Lib.hid (fun W q c (h : Pl W (.slice q 1 c) 1 (rR [62, 1]) (lL [62, 1])) => Check_any 1 q 1 c _ _ true (by omega) W h)
  have HC2 := Lib.hid (fun W q c (h : Pl W (.slice q 1 c) 1 (rR [63, 1]) (lL [63, 1])) => Check_any 0 q 1 c _ _ false (by omega) W h)
  have HC3 := Lib.hid (fun W q c (h : Pl W (.slice q 2 c) 2 (rR [63, 1, 0, 1]) (lL [63, 1, 0, 1])) => Check_any 0 q 2 c _ _ false (by omega) W h)
  rw [known_cc1] at HC1
  rw [known_cc2] at HC2
  rw [known_cc3] at HC3
  have HRS := Lib.hid (fun W => Residue_any 5 none 0 0 (fun _ => 0) (fun _ => 0) true 0 (by omega) W (pl_nil W _ _))
  rw [known_rs] at HRS
  have HLV := Lib.hid (fun W q c (h : Pl W (.slice q 1 c) 1 (rR [1, -2]) (lL [1, -2])) => Levels_any 0 q 1 c _ _ false (by omega) W h)
  rw [known_lv, known_ln] at HLV
  have HF := Lib.hid (fun W => flat_any 255 1 W (by decide) (by decide) (by decide) (by decide) (by decide))
  rw [if_pos rfl] at HF
  have U1 : True := trivial
  have V1 : True := trivial
  have G1 : True := trivial
  have C1 : True := trivial
  go_enter Tryz.func6, Tryz.ntmps6
  go_wp2_with (first
    | (clear U1; go_at_call 29; refine (of_new 0 [0, 1, 0, 1] 2 _ 4 _ (by rfl) rfl rfl (by decide)).mono ?_; rintro e w1 ⟨q1, c1, rfl, p1, h1⟩; have P1 := Lib.hid p1; clear p1; have A := Lib.hid (A.out.below h1); clear h1; have U2 : True := trivial)
    | (clear U2; go_at_call 29; refine (of_nil 0 _).mono ?_; rintro e w1 ⟨rfl, h1⟩; have A := Lib.hid (A.out.below h1); clear h1; have U3 : True := trivial)
    | (clear U3; go_at_call 29; refine (of_nil 128 _).mono ?_; rintro e w1 ⟨rfl, h1⟩; have A := Lib.hid (A.out.below h1); clear h1; have U4 : True := trivial)
    | (clear U4; go_at_call 29; refine (of_nil 5 _).mono ?_; rintro e w1 ⟨rfl, h1⟩; have A := Lib.hid (A.out.below h1); clear h1; have U5 : True := trivial)
    | (clear U5; go_at_call 29; refine (of_nil 0 _).mono ?_; rintro e w1 ⟨rfl, h1⟩; have A := Lib.hid (A.out.below h1); clear h1; have U6 : True := trivial)
    | (clear U6; go_at_call 29; refine (of_nil 0 _).mono ?_; rintro e w1 ⟨rfl, h1⟩; have A := Lib.hid (A.out.below h1); clear h1; have U7 : True := trivial)
    | (clear U7; go_at_call 29; refine (of_new 1 [62, 1] 1 _ 2 _ (by rfl) rfl rfl (by decide)).mono ?_; rintro e w1 ⟨q7, c7, rfl, p1, h1⟩; have P7 := Lib.hid p1; clear p1; have A := Lib.hid (A.out.below h1); clear h1; have U8 : True := trivial)
    | (clear U8; go_at_call 29; refine (of_new 0 [63, 1] 1 _ 2 _ (by rfl) rfl rfl (by decide)).mono ?_; rintro e w1 ⟨q8, c8, rfl, p1, h1⟩; have P8 := Lib.hid p1; clear p1; have A := Lib.hid (A.out.below h1); clear h1; have U9 : True := trivial)
    | (clear U9; go_at_call 29; refine (of_new 0 [63, 1, 0, 1] 2 _ 4 _ (by rfl) rfl rfl (by decide)).mono ?_; rintro e w1 ⟨q9, c9, rfl, p1, h1⟩; have P9 := Lib.hid p1; clear p1; have A := Lib.hid (A.out.below h1); clear h1; have U10 : True := trivial)
    | (clear U10; go_at_call 29; refine (of_nil 5 _).mono ?_; rintro e w1 ⟨rfl, h1⟩; have A := Lib.hid (A.out.below h1); clear h1; have U11 : True := trivial)
    | (clear U11; go_at_call 29; refine (of_new 0 [1, -2] 1 _ 2 _ (by rfl) rfl rfl (by decide)).mono ?_; rintro e w1 ⟨q11, c11, rfl, p1, h1⟩; have P11 := Lib.hid p1; clear p1; have A := Lib.hid (A.out.below h1); clear h1; have U12 : True := trivial)
    | (clear U12; go_at_call 29; refine (of_nil 255 _).mono ?_; rintro e w1 ⟨rfl, h1⟩; have A := Lib.hid (A.out.below h1); clear h1; have U13 : True := trivial)
    | (clear V1; go_at_call 28; refine (HU1.out _ q1 c1 P1.out A.out.t).mono ?_; rintro e w1 ⟨rfl, h1⟩; have A := Lib.hid (A.out.below h1); clear h1; have V2 : True := trivial)
    | (clear V2; go_at_call 28; refine (HU2.out _ A.out.t).mono ?_; rintro e w1 ⟨rfl, h1⟩; have A := Lib.hid (A.out.below h1); clear h1; have V3 : True := trivial)
    | (clear V3; go_at_call 28; refine (HU3.out _ A.out.t).mono ?_; rintro e w1 ⟨rfl, h1⟩; have A := Lib.hid (A.out.below h1); clear h1; have V4 : True := trivial)
    | (clear G1; go_at_call 30; refine (gets_new true 5 none 0 0 (fun _ => 0) (fun _ => 0) 10 0 [5, 128] _ 2 _ (by omega) (pl_nil _ _ _) A.out.t (by rfl) rfl (by decide) (by decide) known_gets1).mono ?_; rintro e w1 ⟨rfl, h1⟩; have A := Lib.hid (A.out.below h1); clear h1; have G2 : True := trivial)
    | (clear G2; go_at_call 30; refine (gets_new true 0 none 0 0 (fun _ => 0) (fun _ => 0) 0 10 [128, 0] _ 2 _ (by omega) (pl_nil _ _ _) A.out.t (by rfl) rfl (by decide) (by decide) known_gets2).mono ?_; rintro e w1 ⟨rfl, h1⟩; have A := Lib.hid (A.out.below h1); clear h1; have G3 : True := trivial)
    | (clear G3; go_at_call 30; refine (gets_new true 0 none 0 0 (fun _ => 0) (fun _ => 0) 0 5 [5] _ 1 _ (by omega) (pl_nil _ _ _) A.out.t (by rfl) rfl (by decide) (by decide) known_gets3).mono ?_; rintro e w1 ⟨rfl, h1⟩; have A := Lib.hid (A.out.below h1); clear h1; have G4 : True := trivial)
    | (clear C1; go_at_call 23; refine (HC1.out _ q7 c7 P7.out).mono ?_; rintro e w1 ⟨rfl, h1⟩; have A := Lib.hid (A.out.below h1); clear h1; have C2 : True := trivial)
    | (clear C2; go_at_call 23; refine (HC2.out _ q8 c8 P8.out).mono ?_; rintro e w1 ⟨rfl, h1⟩; have A := Lib.hid (A.out.below h1); clear h1; have C3 : True := trivial)
    | (clear C3; go_at_call 23; refine (HC3.out _ q9 c9 P9.out).mono ?_; rintro e w1 ⟨rfl, h1⟩; have A := Lib.hid (A.out.below h1); clear h1; have C4 : True := trivial)
    | (go_at_call 26; refine (HRS.out _).mono ?_; rintro e w1 ⟨v5, rfl, _, h1⟩; have A := Lib.hid (A.out.below h1); clear h1)
    | (go_at_call 20; refine (HLV.out _ q11 c11 P11.out).mono ?_; rintro e w1 ⟨v6, rfl, hres, h1⟩; obtain ⟨g6, cc6, rfl, _, _, _, _, hA6⟩ := hres.resolve_left (fun h => absurd h.1 (by decide)); have k0 := (hA6 0 (by decide)).1; have k1 := (hA6 1 (by decide)).1; have k2 := (hA6 2 (by decide)).1; rw [known_s0] at k0; rw [known_s1] at k1; rw [known_s2] at k2; clear hA6 hres; have A := Lib.hid (A.out.below h1); clear h1)
    | (go_at_call 10; refine (awake12_any _ A.out.t).mono ?_; rintro e w1 ⟨rfl, h1⟩; have A := Lib.hid (A.out.below h1); clear h1)
    | (go_at_call 31; refine (HF.out _).mono ?_; rintro e w1 ⟨rfl, h1⟩; have A := Lib.hid (A.out.below h1); clear h1))
  go_ret
  exact ⟨rfl, A.out.b⟩
end
end Dk
end Go.Proofs.YtpibeocngkjolaaGreatDoor

namespace Go.Proofs.YtpibeocngkjolaaGreatDoor
open Go.RowKit Go.Shelf
set_option linter.unusedSimpArgs false
set_option linter.unusedVariables false
namespace Dk
open Cf Bk Sc Qu Co
section
set_option maxRecDepth 100000
set_option maxHeartbeats 4000000
theorem known_f1 : bE 128 0 (fun _ => 0) (fun _ => 0) true = 10 := known_u3
theorem BlockFlat_any (code quant : Int) (w : World) (hc : (Lit.int .i64 code).wf = true) (hq : (Lit.int .i64 quant).wf = true) (hT : Tabs w) :
    Calls Tryz.prog 9 #[.int .i64 code, .int .i64 quant] w fun e w' => e = .returned (.bool true) ∧ Below w.heap.size w w' := by
  have A := Lib.hid (AW.new hT)
  have m1 := Int.emod_nonneg code (show (255 : Int) ≠ 0 by decide)
  have m2 := Int.emod_lt_of_pos code (show (0 : Int) < 255 by decide)
  have m3 := Int.emod_nonneg quant (show (31 : Int) ≠ 0 by decide)
  have m4 := Int.emod_lt_of_pos quant (show (0 : Int) < 31 by decide)
  obtain ⟨x, hx⟩ : ∃ x, code % 255 = x := ⟨_, rfl⟩
  obtain ⟨y, hy⟩ : ∃ x, quant % 31 = x := ⟨_, rfl⟩
  have HP1 := Lib.hid (fun W => Pick_any code 255 W (by decide) (by decide))
  have HP2 := Lib.hid (fun W => Pick_any quant 31 W (by decide) (by decide))
  rw [hx] at m1 m2 HP1
  rw [hy] at m3 m4 HP2
  clear hT hc hq hx hy
  have e1 : wrap64 (1 + x) = 1 + x := w64 (by omega)
  have e2 : wrap64 (1 + y) = 1 + y := w64 (by omega)
  obtain ⟨X, hX⟩ : ∃ X, 1 + x = X := ⟨_, rfl⟩
  obtain ⟨Y, hY⟩ : ∃ X, 1 + y = X := ⟨_, rfl⟩
  by_cases h1 : X = 128
  · have g1 : (1 + x == 128) = true := by simp; omega
    have HC := Lib.hid (fun W => Check_any 128 none 0 0 (fun _ => 0) (fun _ => 0) true (by omega) W (pl_nil W _ _))
    rw [known_u3] at HC
    clear h1 hX hY
    go_enter Tryz.func9, Tryz.ntmps9
    go_wp2_with (first
      | (go_at_call 6; refine (BlockKnown_any _ A.out.t).mono ?_; rintro e w1 ⟨rfl, h1⟩; have A := Lib.hid (A.out.below h1); clear h1)
      | (go_at_call_of 34 (Value.int IntKind.i64 255); refine (HP1.out _).mono ?_; rintro e w1 ⟨rfl, rfl⟩)
      | (go_at_call_of 34 (Value.int IntKind.i64 31); refine (HP2.out _).mono ?_; rintro e w1 ⟨rfl, rfl⟩)
      | (go_at_call 29; refine (of_nil 128 _).mono ?_; rintro e w1 ⟨rfl, h1⟩; have A := Lib.hid (A.out.below h1); clear h1)
      | (go_at_call 23; refine (HC.out _).mono ?_; rintro e w1 ⟨rfl, h1⟩; have A := Lib.hid (A.out.below h1); clear h1))
    go_ret
    exact ⟨rfl, A.out.b⟩
  · have g1 : (1 + x == 128) = false := by simp; omega
    have HF := Lib.hid (fun W => flat_any X Y W (by omega) (by omega) h1 (by omega) (by omega))
    have HO := Lib.hid (fun W => of_nil X W)
    by_cases h2 : X = 255
    · have g2 : (1 + x == 255) = true := by simp; omega
      rw [if_pos h2] at HF
      rw [← hX, ← hY] at HF
      rw [← hX] at HO
      clear h1 h2 hX hY
      go_enter Tryz.func9, Tryz.ntmps9
      go_wp2_with (first
        | (go_at_call 6; refine (BlockKnown_any _ A.out.t).mono ?_; rintro e w1 ⟨rfl, h1⟩; have A := Lib.hid (A.out.below h1); clear h1)
        | (go_at_call_of 34 (Value.int IntKind.i64 255); refine (HP1.out _).mono ?_; rintro e w1 ⟨rfl, rfl⟩)
        | (go_at_call_of 34 (Value.int IntKind.i64 31); refine (HP2.out _).mono ?_; rintro e w1 ⟨rfl, rfl⟩)
        | (go_at_call 29; refine (HO.out _).mono ?_; rintro e w1 ⟨rfl, h1⟩; have A := Lib.hid (A.out.below h1); clear h1)
        | (go_at_call 31; refine (HF.out _).mono ?_; rintro e w1 ⟨rfl, h1⟩; have A := Lib.hid (A.out.below h1); clear h1))
      go_ret
      exact ⟨rfl, A.out.b⟩
    · have g2 : (1 + x == 255) = false := by simp; omega
      rw [if_neg h2] at HF
      rw [← hX, ← hY] at HF
      rw [← hX] at HO
      clear h1 h2 hX hY
      go_enter Tryz.func9, Tryz.ntmps9
      go_wp2_with (first
        | (go_at_call 6; refine (BlockKnown_any _ A.out.t).mono ?_; rintro e w1 ⟨rfl, h1⟩; have A := Lib.hid (A.out.below h1); clear h1)
        | (go_at_call_of 34 (Value.int IntKind.i64 255); refine (HP1.out _).mono ?_; rintro e w1 ⟨rfl, rfl⟩)
        | (go_at_call_of 34 (Value.int IntKind.i64 31); refine (HP2.out _).mono ?_; rintro e w1 ⟨rfl, rfl⟩)
        | (go_at_call 29; refine (HO.out _).mono ?_; rintro e w1 ⟨rfl, h1⟩; have A := Lib.hid (A.out.below h1); clear h1)
        | (go_at_call 31; refine (HF.out _).mono ?_; rintro e w1 ⟨rfl, h1⟩; have A := Lib.hid (A.out.below h1); clear h1))
      go_ret
      exact ⟨rfl, A.out.b⟩
end
end Dk
end Go.Proofs.YtpibeocngkjolaaGreatDoor

namespace Go.Proofs.YtpibeocngkjolaaGreatDoor
open Go.RowKit Go.Shelf
set_option linter.unusedSimpArgs false
set_option linter.unusedVariables false
theorem Res.own_ge {k : IntKind} {B : Nat} {w : World} {v : Value} {n : Nat} {f : Nat → Int} (h : Res k B w v n f) : ∀ g, v.ownBlock = some g → B ≤ g := by
  rcases h with ⟨_, rfl⟩ | ⟨g, c, rfl, hB, _⟩
  · intro g h; cases h
  · intro g' h
    obtain rfl : g = g' := Option.some.inj h
    exact hB
namespace Dk
open Cf Bk Sc
/-- a block that came in, and its copy. -/
structure BP (w : World) (dc : Int) (q : Option Addr) (n c B2 : Nat) (q2 : Option Addr) (c2 : Nat) (r l : Nat → Int) (V : World) : Prop where
  t : Tabs V
  b : Below w.heap.size w V
  x : At V w.heap.size #[.int .i64 dc, .slice q n c] 27
  y : At V B2 #[.int .i64 dc, .slice q2 n c2] 27
  px : Pl V (.slice q n c) n r l
  py : Pl V (.slice q2 n c2) n r l
theorem BP.below {w : World} {dc : Int} {q : Option Addr} {n c B2 : Nat} {q2 : Option Addr} {c2 : Nat} {r l : Nat → Int} {V V' : World} (h : BP w dc q n c B2 q2 c2 r l V) (hb : Below V.heap.size V V') : BP w dc q n c B2 q2 c2 r l V' :=
  ⟨h.t.below hb, chain h.b hb, h.x.below hb, h.y.below hb, h.px.below hb, h.py.below hb⟩
theorem BP.new {w w1 : World} {dc : Int} {q : Option Addr} {n c : Nat} {q2 : Option Addr} {c2 : Nat} {r l : Nat → Int} (t : Tabs w1) (b : Below w.heap.size w w1) (x : At w1 w.heap.size #[.int .i64 dc, .slice q n c] 27) (px : Pl w1 (.slice q n c) n r l) (py : Pl w1 (.slice q2 n c2) n r l) : BP w dc q n c w1.heap.size q2 c2 r l (w1.alloc (.cells #[.int .i64 dc, .slice q2 n c2] 27)) := by
  have hb := (Below.refl _ w1).alloc (Nat.le_refl _) (.cells #[.int .i64 dc, .slice q2 n c2] 27)
  exact ⟨t.below hb, chain b hb, x.below hb, At.new w1 _ _, px.below hb, py.below hb⟩
theorem BP.cells {w : World} {dc : Int} {q : Option Addr} {n c B2 : Nat} {q2 : Option Addr} {c2 : Nat} {r l : Nat → Int} {V : World} (h : BP w dc q n c B2 q2 c2 r l V) :
    V.cell? ⟨w.heap.size, 0, none⟩ = some (.int .i64 dc) ∧ V.cell? ⟨w.heap.size, 1, none⟩ = some (.slice q n c) ∧ V.cell? ⟨B2, 0, none⟩ = some (.int .i64 dc) ∧ V.cell? ⟨B2, 1, none⟩ = some (.slice q2 n c2) :=
  ⟨h.x.cell 0 _ rfl, h.x.cell 1 _ rfl, h.y.cell 0 _ rfl, h.y.cell 1 _ rfl⟩
section
set_option maxRecDepth 100000
set_option maxHeartbeats 8000000
theorem BlockPuts_any (dc : Int) (q : Option Addr) (n c : Nat) (r l : Nat → Int) (i : Bool) (w : World) (hp : Pl w (.slice q n c) n r l) (hT : Tabs w) :
    Calls Tryz.prog 4 #[bv dc q n c, .bool i] w fun e w' => e = .returned (.bool true) ∧ Below w.heap.size w w' := by
  have B0 := (Below.refl w.heap.size w).alloc (Nat.le_refl _) (.cells #[.int .i64 dc, .slice q n c] 27)
  have HB0 := Lib.hid B0
  have A0 := Lib.hid (At.new w #[.int .i64 dc, .slice q n c] 27)
  have P0 := Lib.hid (hp.below B0)
  have T0 := Lib.hid (hT.below B0)
  have k0 := A0.out.cell 0 _ rfl
  have k1 := A0.out.cell 1 _ rfl
  clear B0 hp hT
  by_cases hn : n ≤ 80
  · have t1 : ¬ (n : Int) > 80 := by omega
    have HCP := Lib.hid (CopyBlock_any dc q n c r l _ (by omega) P0.out)
    have HP := Lib.hid (fun V B2 q2 c2 (h : BP w dc q n c B2 q2 c2 r l V) => Put_any2 dc q2 n c2 r l i (by omega) V h.py h.t)
    have HQ := Lib.hid (fun V B2 q2 c2 (h : BP w dc q n c B2 q2 c2 r l V) => rPut_any2 dc q n c r l i (by omega) V h.px h.t)
    have HL := Lib.hid (fun V B2 q2 c2 (h : BP w dc q n c B2 q2 c2 r l V) => Levels_any dc q2 n c2 r l i (by omega) V h.py)
    have HM := Lib.hid (fun V B2 q2 c2 (h : BP w dc q n c B2 q2 c2 r l V) => rLevels_any dc q n c r l i (by omega) V h.px)
    have HC := Lib.hid (fun V B2 q2 c2 (h : BP w dc q n c B2 q2 c2 r l V) => Check_any dc q2 n c2 r l i (by omega) V h.py)
    have HD := Lib.hid (fun V B2 q2 c2 (h : BP w dc q n c B2 q2 c2 r l V) => rCheck_any dc q n c r l V i (by omega) h.px)
    obtain ⟨E, hE⟩ : ∃ E, bE dc n r l i = E := ⟨_, rfl⟩
    obtain ⟨S, hS⟩ : ∃ S : ByteArray, (if E = 0 then sv (cs (ptB dc n r l i)) else sv []) = .string S := by
      by_cases h : E = 0
      · exact ⟨_, if_pos h⟩
      · exact ⟨_, if_neg h⟩
    rw [hE] at HP HQ HL HM HC HD
    rw [hS] at HP HQ
    have LN : lN dc n r l i ≤ 64 := by unfold lN; split <;> omega
    obtain ⟨M, hM⟩ : ∃ M, lN dc n r l i = M := ⟨_, rfl⟩
    rw [hM] at HL HM LN
    generalize spF (fst i) r l n = f at *
    clear hE hS hM
    have t2 : (E == E) = true := by simp
    go_enter Tryz.func4, Tryz.ntmps4
    go_wp2_with (first
      | (go_at_call 17; refine HCP.out.mono ?_; rintro e w1 ⟨v, rfl, ho, hb⟩; obtain ⟨q2, c2, rfl⟩ := ho.form; have BP2 := Lib.hid (BP.new (T0.out.below hb) (chain HB0.out hb) (A0.out.below hb) (P0.out.below hb) ho.pl); clear ho hb k0 k1; obtain ⟨k0, k1, m0, m1⟩ := BP2.out.cells)
      | (go_at_call 18; refine (HP.out _ _ _ _ BP2.out).mono ?_; rintro e w2 ⟨rfl, hb⟩; have BP2 := Lib.hid (BP2.out.below hb); clear hb k0 k1 m0 m1; obtain ⟨k0, k1, m0, m1⟩ := BP2.out.cells)
      | (go_at_call 19; refine (HQ.out _ _ _ _ BP2.out).mono ?_; rintro e w4 ⟨rfl, hb⟩; have BP2 := Lib.hid (BP2.out.below hb); clear hb k0 k1 m0 m1; obtain ⟨k0, k1, m0, m1⟩ := BP2.out.cells; have BP4 := Lib.hid BP2.out)
      | (go_at_call 20; refine (HL.out _ _ _ _ BP4.out).mono ?_; rintro e w5 ⟨v5, rfl, hr5, hb⟩; have R5 := Lib.hid hr5; have BP5 := Lib.hid (BP4.out.below hb); have B5 := Lib.hid hb; clear hb hr5 k0 k1 m0 m1; obtain ⟨k0, k1, m0, m1⟩ := BP5.out.cells)
      | (go_at_call 21; refine (HM.out _ _ _ _ BP5.out).mono ?_; rintro e w6 ⟨v6, rfl, hr6, hb⟩; have R6 := Lib.hid hr6; have R5 := Lib.hid (R5.out.below hb); have BP6 := Lib.hid (BP5.out.below hb); have B6 := Lib.hid (chain B5.out hb); clear hb hr6 k0 k1 m0 m1; obtain ⟨k0, k1, m0, m1⟩ := BP6.out.cells))
    have c0 := fun x => Past.cell k0 x
    have c1 := fun x => Past.cell k1 x
    have c2' := fun x => Past.cell m0 x
    have c3 := fun x => Past.cell m1 x
    refine wp_region_past (by kernel_rfl) (by kernel_rfl) ?_
    repeat (go_big_quiet_step (first
      | (go_at_call 22; exact past_call (SameInts_true _ _ M f f _ (by omega) (R5.out.below (Past.kept _)).sl (R6.out.below (Past.kept _)).sl (fun _ _ => rfl)))
      | (go_at_call 23; exact past_call (HC.out _ _ _ _ (BP6.out.below (Past.kept _))))
      | (go_at_call 24; exact past_call (HD.out _ _ _ _ (BP6.out.below (Past.kept _))))))
    refine wpQuiet_nil ?_
    rintro _ ⟨⟨w7, h7⟩, rfl⟩
    have R7 := Lib.hid (R5.out.below h7)
    have B7 := Lib.hid (chain B6.out h7)
    have OG := Lib.hid R5.out.own_ge
    clear c0 c1 c2' c3 k0 k1 m0 m1 R5 R6 BP5 BP6 B5 B6
    go_wp2_with (first
      | (go_at_call 25; refine (OverInts_any _ M _ f _ (by omega) R7.out).mono ?_; rintro e w8 ⟨rfl, hg⟩; have B8 := Lib.hid (B7.out.grown hg B7.out.size (fun g hg => OG.out g hg)); have BP8 := Lib.hid (BP4.out.below B8.out); clear hg; obtain ⟨k0, k1, m0, m1⟩ := BP8.out.cells)
      | (go_at_call 14; refine (SameBlock_eq _ _ _ _ _ _ r l r l _ (by omega) BP8.out.py BP8.out.px (fun _ _ => ⟨rfl, rfl⟩)).mono ?_; rintro e w9 ⟨rfl, hb⟩; have BP9 := Lib.hid (BP8.out.below hb); clear hb)
      | (go_at_call 10; refine (awake12_any _ BP9.out.t).mono ?_; rintro e w10 ⟨rfl, hb⟩; have BPA := Lib.hid (BP9.out.below hb); clear hb))
    go_ret
    exact ⟨rfl, BPA.out.b⟩
  · have t1 : (n : Int) > 80 := by omega
    have HA := Lib.hid (fun V hT => awake12_any V hT)
    clear hn
    go_enter Tryz.func4, Tryz.ntmps4
    go_wp2_with (go_at_call 10; refine (HA.out _ T0.out).mono ?_; rintro e w10 ⟨rfl, hb⟩)
    go_ret
    exact ⟨rfl, chain HB0.out hb⟩
theorem BlockSamples_any (dc : Int) (q : Option Addr) (n c : Nat) (r l : Nat → Int) (by' : Int) (i : Bool) (w : World) (hp : Pl w (.slice q n c) n r l) (hT : Tabs w) :
    Calls Tryz.prog 5 #[bv dc q n c, .int .i64 by', .bool i] w fun e w' => e = .returned (.bool true) ∧ Below w.heap.size w w' := by
  have B0 := (Below.refl w.heap.size w).alloc (Nat.le_refl _) (.cells #[.int .i64 dc, .slice q n c] 27)
  have HB0 := Lib.hid B0
  have A0 := Lib.hid (At.new w #[.int .i64 dc, .slice q n c] 27)
  have P0 := Lib.hid (hp.below B0)
  have T0 := Lib.hid (hT.below B0)
  have k0 := A0.out.cell 0 _ rfl
  have k1 := A0.out.cell 1 _ rfl
  clear B0 hp hT
  by_cases hn : n ≤ 80
  · have t1 : ¬ (n : Int) > 80 := by omega
    have HCP := Lib.hid (CopyBlock_any dc q n c r l _ (by omega) P0.out)
    have HL := Lib.hid (fun V B2 q2 c2 (h : BP w dc q n c B2 q2 c2 r l V) => Residue_any dc q2 n c2 r l i by' (by omega) V h.py)
    have HM := Lib.hid (fun V B2 q2 c2 (h : BP w dc q n c B2 q2 c2 r l V) => rResidue_any dc q n c r l i by' (by omega) V h.px)
    obtain ⟨E, hE⟩ : ∃ E, rsE dc n r l i by' = E := ⟨_, rfl⟩
    have LN : rsN dc n r l i by' ≤ 64 := by unfold rsN; split <;> omega
    obtain ⟨M, hM⟩ : ∃ M, rsN dc n r l i by' = M := ⟨_, rfl⟩
    rw [hE, hM] at HL HM
    rw [hM] at LN
    generalize Co.invC (wF dc n r l i by') = f at *
    clear hE hM
    have t2 : (E == E) = true := by simp
    go_enter Tryz.func5, Tryz.ntmps5
    go_wp2_with (first
      | (go_at_call 17; refine HCP.out.mono ?_; rintro e w1 ⟨v, rfl, ho, hb⟩; obtain ⟨q2, c2, rfl⟩ := ho.form; have BP4 := Lib.hid (BP.new (T0.out.below hb) (chain HB0.out hb) (A0.out.below hb) (P0.out.below hb) ho.pl); clear ho hb k0 k1; obtain ⟨k0, k1, m0, m1⟩ := BP4.out.cells)
      | (go_at_call 26; refine (HL.out _ _ _ _ BP4.out).mono ?_; rintro e w5 ⟨v5, rfl, hr5, hb⟩; have R5 := Lib.hid hr5; have BP5 := Lib.hid (BP4.out.below hb); have B5 := Lib.hid hb; clear hb hr5 k0 k1 m0 m1; obtain ⟨k0, k1, m0, m1⟩ := BP5.out.cells)
      | (go_at_call 27; refine (HM.out _ _ _ _ BP5.out).mono ?_; rintro e w6 ⟨v6, rfl, hr6, hb⟩; have R6 := Lib.hid hr6; have R5 := Lib.hid (R5.out.below hb); have BP6 := Lib.hid (BP5.out.below hb); have B6 := Lib.hid (chain B5.out hb); clear hb hr6 k0 k1 m0 m1; obtain ⟨k0, k1, m0, m1⟩ := BP6.out.cells)
      | (go_at_call 22; refine (SameInts_true _ _ M f f _ (by omega) R5.out.sl R6.out.sl (fun _ _ => rfl)).mono ?_; rintro e w7 ⟨rfl, hb⟩; have R7 := Lib.hid (R5.out.below hb); have B7 := Lib.hid (chain B6.out hb); have OG := Lib.hid R5.out.own_ge; clear hb k0 k1 m0 m1)
      | (go_at_call 25; refine (OverInts_any _ M _ f _ (by omega) R7.out).mono ?_; rintro e w8 ⟨rfl, hg⟩; have B8 := Lib.hid (B7.out.grown hg B7.out.size (fun g hg => OG.out g hg)); have BP8 := Lib.hid (BP4.out.below B8.out); clear hg; obtain ⟨k0, k1, m0, m1⟩ := BP8.out.cells)
      | (go_at_call 14; refine (SameBlock_eq _ _ _ _ _ _ r l r l _ (by omega) BP8.out.py BP8.out.px (fun _ _ => ⟨rfl, rfl⟩)).mono ?_; rintro e w9 ⟨rfl, hb⟩; have BP9 := Lib.hid (BP8.out.below hb); clear hb)
      | (go_at_call 10; refine (awake12_any _ BP9.out.t).mono ?_; rintro e w10 ⟨rfl, hb⟩; have BPA := Lib.hid (BP9.out.below hb); clear hb))
    go_ret
    exact ⟨rfl, BPA.out.b⟩
  · have t1 : (n : Int) > 80 := by omega
    have HA := Lib.hid (fun V hT => awake12_any V hT)
    clear hn
    go_enter Tryz.func5, Tryz.ntmps5
    go_wp2_with (go_at_call 10; refine (HA.out _ T0.out).mono ?_; rintro e w10 ⟨rfl, hb⟩)
    go_ret
    exact ⟨rfl, chain HB0.out hb⟩
end
end Dk
end Go.Proofs.YtpibeocngkjolaaGreatDoor

namespace Go.Proofs.YtpibeocngkjolaaGreatDoor
open Go.RowKit Go.Shelf
set_option linter.unusedSimpArgs false
set_option linter.unusedVariables false
namespace Dk
open Cf Bk Sc
/-- behind LentBytes. -/
structure LG12 (w : World) (a : Option Addr) (len cap g c : Nat) (f : Nat → Int) (V : World) : Prop where
  t : Tabs V
  b : Below w.heap.size w V
  s : Sl .u8 V (.slice a len cap) len f
  i : Sl .u8 V (.slice (some ⟨g, 0, none⟩) len c) len f
  m : Arr V .u8 g (len + 4) (lentF len f)
  l : g < V.heap.size
theorem LG12.below {w V V' : World} {a : Option Addr} {len cap g c : Nat} {f : Nat → Int} (h : LG12 w a len cap g c f V) (hb : Below V.heap.size V V') : LG12 w a len cap g c f V' :=
  ⟨h.t.below hb, chain h.b hb, h.s.below hb, h.i.below hb, h.m.below hb h.l, Nat.lt_of_lt_of_le h.l hb.size⟩
theorem at_cells {V : World} {B : Nat} {dc : Int} {q : Option Addr} {n c : Nat} (h : At V B #[.int .i64 dc, .slice q n c] 27) : V.cell? ⟨B, 0, none⟩ = some (.int .i64 dc) ∧ V.cell? ⟨B, 1, none⟩ = some (.slice q n c) := ⟨h.cell 0 _ rfl, h.cell 1 _ rfl⟩
theorem GB.n64 {F : Nat → Int} {N : Nat} {p E dc b : Int} {intra : Bool} {n : Nat} (h : GB F N p intra E dc n b) : n ≤ 64 := by
  rcases h with ⟨_, _, _, rfl, _⟩ | ⟨_, s, hs, ⟨_, _, _, rfl, _⟩ | ⟨_, _, _, rfl, _⟩⟩
  · omega
  · omega
  · exact ok_le hs.1
section
set_option maxRecDepth 100000
set_option maxHeartbeats 8000000
theorem BlockGets_any (a : Option Addr) (len cap : Nat) (zs : List Int) (p : Int) (intra : Bool) (w : World) (h : IsRow .u8 w a len cap zs) (hp : (Lit.int .i64 p).wf = true) (hT : Tabs w) :
    Calls Tryz.prog 3 #[.slice a len cap, .int .i64 p, .bool intra] w fun e w' => e = .returned (.bool true) ∧ Below w.heap.size w w' := by
  have hs := h.sl.1
  have hb := fun i (_ : i < len) => byte_bd h i
  have hp2 : p ≤ 9223372036854775807 := by
    have e1 : IntKind.i64.max = 9223372036854775807 := rfl
    simp only [Lit.wf, Bool.and_eq_true, decide_eq_true_eq, e1] at hp
    exact hp.2
  obtain ⟨f, hf⟩ : ∃ f : Nat → Int, (fun i => zs.getD i 0) = f := ⟨_, rfl⟩
  rw [hf] at hs
  have hb : ∀ i, i < len → 0 ≤ f i ∧ f i ≤ 255 := by rw [← hf]; exact hb
  have HA := Lib.hid (fun W h => awake12_any W h)
  have HT := Lib.hid hT
  clear h hp hf
  by_cases h200 : len ≤ 200
  · have t1 : ¬ (len : Int) > 200 := by omega
    have HL := Lib.hid (LentBytes_any _ len f w (by omega) hs)
    have HG := Lib.hid (fun V g c (L : LG12 w a len cap g c f V) => Get12_any _ len f p intra V (by omega) L.i hb L.t)
    have HR := Lib.hid (fun V g c (L : LG12 w a len cap g c f V) => rGet12_any _ len f p intra V (by omega) L.s hb hp2)
    have HK := Lib.hid (fun V g c (h1 : len + 4 ≤ c) (h2 : c ≤ maxLen) (L : LG12 w a len cap g c f V) => KeptBytes_row g c len a cap f V (by omega) h1 h2 L.m L.s)
    have HS := Lib.hid hs
    have HU := Lib.hid (fun E dc n b E' dc' n' b' (h : GB f len p intra E dc n b) (k : GB f len p intra E' dc' n' b') => k.uniq h)
    clear hs hb hp2 hT h200
    go_enter Tryz.func3, Tryz.ntmps3
    go_wp2_with (first
      | (go_at_call 11; refine HL.out.mono ?_; rintro e w1 ⟨g, c, rfl, h1, h2, h3, h4, h5, h6⟩; have L1 := Lib.hid (show LG12 w a len cap g c f w1 from ⟨HT.out.below h6, h6, HS.out.below h6, Lent.sl h2 h3 h4 h5, h5, h2⟩); have M3 := Lib.hid h3; have M4 := Lib.hid h4; clear h1 h2 h3 h4 h5 h6)
      | (go_at_call 12; refine (HG.out _ _ _ L1.out).mono ?_; rintro e w2 ⟨E, dc, b, n, q, cq, hgb, rfl, ho, hB⟩; have K2 := Lib.hid hgb; have hB2 := (Below.refl _ w2).alloc (Nat.le_refl _) (.cells #[.int .i64 dc, .slice q n cq] 27); have O2 := Lib.hid (OwnP.below ho hB2); have X2 := Lib.hid (At.new w2 #[.int .i64 dc, .slice q n cq] 27); have C2 := Lib.hid (chain hB hB2); have L2 := Lib.hid ((L1.out.below hB).below hB2); clear hgb ho hB hB2; obtain ⟨x0, x1⟩ := at_cells X2.out)
      | (go_at_call 13; refine (HR.out _ _ _ L2.out).mono ?_; rintro e w3 ⟨E', dc', b', n', q', cq', hgb, rfl, ho, hB⟩; obtain ⟨rfl, rfl, rfl, rfl⟩ := HU.out _ _ _ _ _ _ _ _ K2.out hgb; have hB2 := (Below.refl _ w3).alloc (Nat.le_refl _) (.cells #[.int .i64 dc', .slice q' n' cq'] 27); have Y3 := Lib.hid (At.new w3 #[.int .i64 dc', .slice q' n' cq'] 27); have O3 := Lib.hid (OwnP.below ho hB2); have O2 := Lib.hid (OwnP.below (OwnP.below O2.out hB) hB2); have X3 := Lib.hid ((X2.out.below hB).below hB2); have C3 := Lib.hid (chain (chain C2.out hB) hB2); have N64 := Lib.hid K2.out.n64; clear hgb ho hB hB2 x0 x1; obtain ⟨x0, x1⟩ := at_cells X3.out; obtain ⟨y0, y1⟩ := at_cells Y3.out)
      | (go_at_call 14; refine (SameBlock_eq _ _ _ _ _ _ _ _ _ _ _ (Nat.le_trans N64.out (by decide)) O2.out.pl O3.out.pl (fun _ _ => ⟨rfl, rfl⟩)).mono ?_; rintro e w4 ⟨rfl, hB⟩; have O4 := Lib.hid (OwnP.below O2.out hB); have C4 := Lib.hid (chain C3.out hB); have X4 := Lib.hid (X3.out.below hB); clear hB x0 x1 y0 y1; obtain ⟨x0, x1⟩ := at_cells X4.out)
      | (go_at_call 15; refine (over_any _ _ _ _ _ _ _ _ (Nat.le_trans N64.out (by decide)) O4.out).mono ?_; rintro e w5 ⟨rfl, hg⟩; have C5 := Lib.hid (C4.out.grown hg C4.out.size (fun g hg => (O4.out.lt g hg).1)); have L5 := Lib.hid (L1.out.below C5.out); clear hg x0 x1)
      | (go_at_call 16; refine (HK.out _ _ _ M3.out M4.out L5.out).mono ?_; rintro e w6 ⟨rfl, hB⟩; have L6 := Lib.hid (L5.out.below hB); clear hB)
      | (go_at_call 10; refine (HA.out _ L6.out.t).mono ?_; rintro e w7 ⟨rfl, hB⟩; have L7 := Lib.hid (L6.out.below hB); clear hB))
    go_ret
    exact ⟨rfl, L7.out.b⟩
  · have t1 : (len : Int) > 200 := by omega
    clear hs hb hp2 h200
    go_enter Tryz.func3, Tryz.ntmps3
    go_wp2_with (go_at_call 10; refine (HA.out _ HT.out).mono ?_; rintro e w5 ⟨rfl, hB⟩)
    go_ret
    exact ⟨rfl, hB⟩
end
end Dk
end Go.Proofs.YtpibeocngkjolaaGreatDoor

namespace Go.Proofs.YtpibeocngkjolaaGreatDoor
open Go.RowKit Go.Shelf
set_option linter.unusedSimpArgs false
set_option linter.unusedVariables false
namespace Dk
open Cf Bk Sc
/-- what holds in BlockBack. -/
structure BX (w : World) (dc : Int) (q : Option Addr) (n c : Nat) (r l : Nat → Int) (v : Value) (m : Nat) (g : Nat → Int) (V : World) : Prop where
  t : Tabs V
  b : Below w.heap.size w V
  x : At V w.heap.size #[.int .i64 dc, .slice q n c] 27
  px : Pl V (.slice q n c) n r l
  s : Sl .i64 V v m g
theorem BX.below {w : World} {dc : Int} {q : Option Addr} {n c : Nat} {r l : Nat → Int} {v : Value} {m : Nat} {g : Nat → Int} {V V' : World} (h : BX w dc q n c r l v m g V) (hb : Below V.heap.size V V') : BX w dc q n c r l v m g V' :=
  ⟨h.t.below hb, chain h.b hb, h.x.below hb, h.px.below hb, h.s.below hb⟩
theorem byV_ok12 (f : Nat → Int) (k : Nat) : ∀ j n, j < n → 0 ≤ byV f k j ∧ byV f k j ≤ 255 := fun j _ _ => byV_bd f k j
theorem Arr.slK {w : World} {g N K : Nat} {F : Nat → Int} (h : Arr w .u8 g N F) (hg : g < w.heap.size) (hK : K ≤ N) (hN : N ≤ maxLen) : Sl .u8 w (.slice (some ⟨g, 0, none⟩) K N) K F :=
  ⟨_, N, rfl, hK, hN, .inr ⟨g, 0, rfl, hg, fun i hi => by
    rw [Nat.zero_add]
    exact (h i (by omega)).1⟩⟩
/-- gets, of a block's bits and others behind. -/
theorem gets_back {dc : Int} {q : Option Addr} {n c : Nat} {r l : Nat → Int} {i : Bool} {g : Nat → Int} {m gb : Nat} {W : World} (hn : n ≤ 64) (hm : m ≤ 60) (hE : bE dc n r l i = 0) (hp : Pl W (.slice q n c) n r l) (hT : Tabs W)
    (hA : Arr W .u8 gb (((ptB dc n r l i).length + m + 7) / 8) (byV (jnF (ptB dc n r l i) g) ((ptB dc n r l i).length + m))) (hg : gb < W.heap.size) :
    Calls Tryz.prog 30 #[.bool i, bv dc q n c, .int .i64 ((ptB dc n r l i).length : Nat), .int .i64 0, .slice (some ⟨gb, 0, none⟩) (((ptB dc n r l i).length + m + 7) / 8) (((ptB dc n r l i).length + m + 7) / 8)] W fun e w' => e = .returned (.bool true) ∧ Below W.heap.size W w' := by
  have hl := ptB_len dc n r l i
  obtain ⟨h1, h2⟩ := put_GB (N := ((ptB dc n r l i).length + m + 7) / 8) (fun j hj => jn_bit (ptB dc n r l i) g m j hj) hE (by omega)
  exact gets_any i dc q n c r l _ 0 _ _ _ W (by omega) (by omega) hp (Arr.slK hA hg (Nat.le_refl _) (by unfold maxLen; omega)) (fun j hj => byV_bd _ _ j) hT h1 h2
/-- gets, of a block's bits, cut off. -/
theorem gets_cut {dc : Int} {n : Nat} {r l : Nat → Int} {i : Bool} {g : Nat → Int} {m gb K : Nat} {W : World} (hn : n ≤ 64) (hm : m ≤ 60) (hE : bE dc n r l i = 0) (hT : Tabs W) (hK : 8 * K < (ptB dc n r l i).length)
    (hA : Arr W .u8 gb (((ptB dc n r l i).length + m + 7) / 8) (byV (jnF (ptB dc n r l i) g) ((ptB dc n r l i).length + m))) (hg : gb < W.heap.size) :
    Calls Tryz.prog 30 #[.bool i, bv 0 none 0 0, .int .i64 0, .int .i64 5, .slice (some ⟨gb, 0, none⟩) K (((ptB dc n r l i).length + m + 7) / 8)] W fun e w' => e = .returned (.bool true) ∧ Below W.heap.size W w' := by
  have hl := ptB_len dc n r l i
  have h1 := cut_GB (N := K) (fun j hj => jn_bit (ptB dc n r l i) g m j hj) hE hK
  exact gets_any i 0 none 0 0 (fun _ => 0) (fun _ => 0) 0 5 _ _ _ W (by omega) (by omega) (pl_nil W _ _) (Arr.slK hA hg (by omega) (by unfold maxLen; omega)) (fun j hj => byV_bd _ _ j) hT h1 (fun j hj => by omega)
section
set_option maxRecDepth 100000
set_option maxHeartbeats 8000000
theorem BlockBack_any (dc : Int) (q : Option Addr) (n c : Nat) (r l : Nat → Int) (i : Bool) (a : Option Addr) (len cap : Nat) (zs : List Int) (w : World) (hp : Pl w (.slice q n c) n r l) (h : IsRow .i64 w a len cap zs) (hT : Tabs w) :
    Calls Tryz.prog 7 #[bv dc q n c, .bool i, .slice a len cap] w fun e w' => e = .returned (.bool true) ∧ Below w.heap.size w w' := by
  have hs := h.sl.1
  obtain ⟨g, hg⟩ : ∃ f : Nat → Int, (fun i => zs.getD i 0) = f := ⟨_, rfl⟩
  rw [hg] at hs
  have B0 := (Below.refl w.heap.size w).alloc (Nat.le_refl _) (.cells #[.int .i64 dc, .slice q n c] 27)
  have X0 : Hid (BX w dc q n c r l (.slice a len cap) len g (w.alloc (.cells #[.int .i64 dc, .slice q n c] 27))) := Lib.hid ⟨hT.below B0, B0, At.new w _ _, hp.below B0, hs.below B0⟩
  have HK := Lib.hid (fun W h => BlockKnown_any W h)
  obtain ⟨k0, k1⟩ := at_cells X0.out.x
  clear B0 hp h hg hs hT
  by_cases hbig : n ≤ 64 ∧ len ≤ 60
  · obtain ⟨h64, h60⟩ := hbig
    have t1 : ¬ (n : Int) > 64 := by omega
    have t2 : ¬ (len : Int) > 60 := by omega
    have HP := Lib.hid (fun V (h : BX w dc q n c r l (.slice a len cap) len g V) => Put_any2 dc q n c r l i (by omega) V h.px h.t)
    have HC := Lib.hid (fun V (h : BX w dc q n c r l (.slice a len cap) len g V) => Check_any dc q n c r l i (by omega) V h.px)
    by_cases hE : bE dc n r l i = 0
    · have HB1 := Lib.hid (fun V (h : BX w dc q n c r l (.slice a len cap) len g V) => lbytes12_any (ptB dc n r l i) (.slice a len cap) len g V (by have := ptB_len dc n r l i; omega) (by have := ptB_len dc n r l i; omega) (by omega) h.s)
      have HB2 := Lib.hid (fun V => lbytes12_any (ptB dc n r l i) (.slice none 0 0) 0 g V (by have := ptB_len dc n r l i; omega) (by have := ptB_len dc n r l i; omega) (by omega) ⟨none, 0, rfl, Nat.le_refl _, Nat.zero_le _, .inl ⟨rfl, fun _ => rfl⟩⟩)
      have HBT := Lib.hid (fun V => bits_any (ptB dc n r l i) V (by have := ptB_len dc n r l i; omega))
      have HG1 := Lib.hid (fun V gb (h : BX w dc q n c r l (.slice a len cap) len g V) hA hg => gets_back (W := V) (gb := gb) (m := len) (g := g) h64 h60 hE h.px h.t hA hg)
      have HG2 := Lib.hid (fun V gb K hT hK hA hg => gets_cut (W := V) (gb := gb) (K := K) (m := 0) (g := g) h64 (by omega) hE hT hK hA hg)
      rw [hE] at HP HC
      rw [if_pos rfl] at HP
      unfold BytesTo at HB1 HB2
      have hz := ptB_len dc n r l i
      have hS : ∃ S : ByteArray, sv (cs (ptB dc n r l i)) = .string S ∧ S.size = (ptB dc n r l i).length := ⟨_, rfl, by rw [ba_size, cs_len]⟩
      obtain ⟨S, hS, hSz⟩ := hS
      rw [hS] at HP HB1 HB2 HBT
      generalize ptB dc n r l i = T at *
      obtain ⟨z, hzz⟩ : ∃ z, T.length = z := ⟨_, rfl⟩
      rw [hzz] at hz hSz HB1 HB2 HG1 HG2
      obtain ⟨N1, hN1⟩ : ∃ N, (z + len + 7) / 8 = N := ⟨_, rfl⟩
      obtain ⟨N2, hN2⟩ : ∃ N, (z + 0 + 7) / 8 = N := ⟨_, rfl⟩
      rw [hN1] at HB1 HG1
      rw [hN2] at HB2 HG2
      obtain ⟨K, hK⟩ : ∃ K, (z - 1) / 8 = K := ⟨_, rfl⟩
      have hK1 : 8 * K < z := by omega
      have hK2 : K ≤ N2 := by omega
      have z2 : 2 ≤ z := hz.1
      have z3 : z ≤ 1290 := by omega
      clear hE hS hz hzz hN1
      go_enter Tryz.func7, Tryz.ntmps7
      go_wp2_with (first
        | (go_at_call 6; refine (HK.out _ X0.out.t).mono ?_; rintro e w1 ⟨rfl, hb⟩; have X1 := Lib.hid (X0.out.below hb); clear hb k0 k1; obtain ⟨k0, k1⟩ := at_cells X1.out.x)
        | (go_at_call 18; refine (HP.out _ X1.out).mono ?_; rintro e w2 ⟨rfl, hb⟩; have X2 := Lib.hid (X1.out.below hb); clear hb k0 k1; obtain ⟨k0, k1⟩ := at_cells X2.out.x))
      have S0 := Lib.hid (X2.out.below (Below.refl _ _).drew)
      clear k0 k1
      obtain ⟨k0, k1⟩ := at_cells S0.out.x
      have PB := Lib.hid (rfl : w.heap.size = w.heap.size)
      have u1 : decide ((z : Int) < 2) = false := decide_eq_false (by omega)
      have u2 : decide (z < 2) = false := decide_eq_false (by omega)
      go_region_held3 (fun w' => w'.cell? ⟨w.heap.size, 0, none⟩ = some (.int .i64 dc) ∧ w'.cell? ⟨w.heap.size, 1, none⟩ = some (.slice q n c))
        (first | exact at_cells S0.out.x | exact at_cells S1.out.x | exact at_cells S2.out.x | exact at_cells S3.out.x)
        (first
          | (go_at_call 32; refine (HBT.out _).mono ?_; rintro e V0 ⟨rfl, rfl⟩)
          | (go_at_call 23; have t0 := S0.out; refine (HC.out _ t0).mono ?_; rintro e V1 ⟨rfl, hb⟩; have S1 := Lib.hid (t0.below hb); clear hb t0 S0)
          | (go_at_call 33; have t0 := S1.out; refine (HB1.out _ t0).mono ?_; rintro e V2 ⟨g1, rfl, hA, hl, _, hb⟩; have S2 := Lib.hid (t0.below hb); have A2 := Lib.hid hA; have L2 := Lib.hid hl; clear hA hl hb t0 S1)
          | (go_at_call 30; have t0 := S2.out; refine (HG1.out _ _ t0 A2.out L2.out).mono ?_; rintro e V3 ⟨rfl, hb⟩; have S3 := Lib.hid (t0.below hb); clear hb t0 S2))
      all_goals
        have X3 := Lib.hid S3.out
        clear u1 u2 S3 HG1 HB1 HBT HC
        go_wp2_with (first
          | (go_at_call 33; refine (HB2.out _).mono ?_; rintro e V4 ⟨g4, rfl, hA, hl, _, hb⟩; have X4 := Lib.hid (X3.out.below hb); have A4 := Lib.hid hA; have L4 := Lib.hid hl; clear hA hl hb)
          | (go_at_call 30; refine (HG2.out _ _ _ X4.out.t hK1 A4.out L4.out).mono ?_; rintro e V5 ⟨rfl, hb⟩; have X5 := Lib.hid (X4.out.below hb); clear hb))
        go_ret
        exact ⟨rfl, X5.out.b⟩
    · obtain ⟨E, hEE⟩ : ∃ E, bE dc n r l i = E := ⟨_, rfl⟩
      rw [if_neg hE, show sv [] = Value.string ⟨#[]⟩ from rfl] at HP
      rw [hEE] at HP HC hE
      have hne : (E != 0) = true := by simp [hE]
      have hee : (E == E) = true := by simp
      clear hE hEE
      go_enter Tryz.func7, Tryz.ntmps7
      go_wp2_with (first
        | (go_at_call 6; refine (HK.out _ X0.out.t).mono ?_; rintro e w1 ⟨rfl, hb⟩; have X1 := Lib.hid (X0.out.below hb); clear hb k0 k1; obtain ⟨k0, k1⟩ := at_cells X1.out.x)
        | (go_at_call 18; refine (HP.out _ X1.out).mono ?_; rintro e w2 ⟨rfl, hb⟩; have X2 := Lib.hid (X1.out.below hb); clear hb k0 k1; obtain ⟨k0, k1⟩ := at_cells X2.out.x)
        | (go_at_call 23; refine (HC.out _ X2.out).mono ?_; rintro e w3 ⟨rfl, hb⟩; have X3 := Lib.hid (X2.out.below hb); clear hb))
      go_ret
      exact ⟨rfl, X3.out.b⟩
  · by_cases h64 : n ≤ 64
    · have t1 : ¬ (n : Int) > 64 := by omega
      have t2 : (len : Int) > 60 := by omega
      clear hbig
      go_enter Tryz.func7, Tryz.ntmps7
      go_wp2_with (go_at_call 6; refine (HK.out _ X0.out.t).mono ?_; rintro e w1 ⟨rfl, hb⟩; have X1 := Lib.hid (X0.out.below hb); clear hb k0 k1; obtain ⟨k0, k1⟩ := at_cells X1.out.x)
      go_ret
      exact ⟨rfl, X1.out.b⟩
    · have t1 : (n : Int) > 64 := by omega
      clear hbig
      go_enter Tryz.func7, Tryz.ntmps7
      go_wp2_with (go_at_call 6; refine (HK.out _ X0.out.t).mono ?_; rintro e w1 ⟨rfl, hb⟩; have X1 := Lib.hid (X0.out.below hb); clear hb k0 k1; obtain ⟨k0, k1⟩ := at_cells X1.out.x)
      go_ret
      exact ⟨rfl, X1.out.b⟩
end
end Dk
end Go.Proofs.YtpibeocngkjolaaGreatDoor

namespace Go.Proofs.YtpibeocngkjolaaGreatDoor
open Go.RowKit Go.Shelf
set_option linter.unusedSimpArgs false
set_option linter.unusedVariables false
namespace Dk
open Cf Bk Sc
/-- what holds in BlockAgain. -/
structure BA (w : World) (B : Nat) (dc : Int) (q : Option Addr) (n c : Nat) (r l : Nat → Int) (V : World) : Prop where
  t : Tabs V
  b : Below w.heap.size w V
  x : At V B #[.int .i64 dc, .slice q n c] 27
  px : Pl V (.slice q n c) n r l
theorem BA.below {w : World} {B : Nat} {dc : Int} {q : Option Addr} {n c : Nat} {r l : Nat → Int} {V V' : World} (h : BA w B dc q n c r l V) (hb : Below V.heap.size V V') : BA w B dc q n c r l V' :=
  ⟨h.t.below hb, chain h.b hb, h.x.below hb, h.px.below hb⟩
theorem BA.new {w w1 : World} {dc : Int} {q : Option Addr} {n c : Nat} {r l : Nat → Int} (t : Tabs w1) (b : Below w.heap.size w w1) (px : Pl w1 (.slice q n c) n r l) : BA w w1.heap.size dc q n c r l (w1.alloc (.cells #[.int .i64 dc, .slice q n c] 27)) := by
  have hb := (Below.refl _ w1).alloc (Nat.le_refl _) (.cells #[.int .i64 dc, .slice q n c] 27)
  exact ⟨t.below hb, chain b hb, At.new w1 _ _, px.below hb⟩
theorem GB.zero {F : Nat → Int} {N : Nat} {p E dc b : Int} {intra : Bool} {n : Nat} (h : GB F N p intra E dc n b) (hE : E ≠ 0) : dc = 0 ∧ n = 0 ∧ b = 0 := by
  rcases h with ⟨_, _, h1, h2, h3⟩ | ⟨_, s, hs, ⟨_, _, h1, h2, h3⟩ | ⟨_, h0, _⟩⟩
  · exact ⟨h1, h2, h3⟩
  · exact ⟨h1, h2, h3⟩
  · exact absurd h0 hE
section
set_option maxRecDepth 100000
set_option maxHeartbeats 8000000
theorem BlockAgain_any (a : Option Addr) (len cap : Nat) (zs : List Int) (i : Bool) (w : World) (h : IsRow .u8 w a len cap zs) (hT : Tabs w) :
    Calls Tryz.prog 8 #[.slice a len cap, .bool i] w fun e w' => e = .returned (.bool true) ∧ Below w.heap.size w w' := by
  have hs := h.sl.1
  have hb := fun i (_ : i < len) => byte_bd h i
  obtain ⟨f, hf⟩ : ∃ f : Nat → Int, (fun i => zs.getD i 0) = f := ⟨_, rfl⟩
  rw [hf] at hs
  have hb : ∀ i, i < len → 0 ≤ f i ∧ f i ≤ 255 := by rw [← hf]; exact hb
  have HA := Lib.hid (fun W h => awake12_any W h)
  have A0 := Lib.hid (AW.new hT)
  have HS := Lib.hid hs
  clear h hf hT
  by_cases h200 : len ≤ 200
  · have t1 : ¬ (len : Int) > 200 := by omega
    have HG := Lib.hid (fun V (A : AW w V) => Get12_any (.slice a len cap) len f 0 i V (by omega) (hs.below A.b) hb A.t)
    have hX : ∃ (E dc b : Int) (n : Nat), GB f len 0 i E dc n b := by
      by_cases h0 : hE f len 0 i = 0
      · obtain ⟨s, hs⟩ := stop_ex (F := f) (N := len) (fi := !i) (p0 := hP 0 i)
        by_cases h1 : gE f len (!i) (hP 0 i) s = 0
        · exact ⟨_, _, _, _, .inr ⟨h0, s, hs, .inr ⟨h1, rfl, rfl, rfl, rfl⟩⟩⟩
        · exact ⟨_, _, _, _, .inr ⟨h0, s, hs, .inl ⟨h1, rfl, rfl, rfl, rfl⟩⟩⟩
      · exact ⟨_, _, _, _, .inl ⟨h0, rfl, rfl, rfl, rfl⟩⟩
    obtain ⟨E, dc, b, n, hgb⟩ := hX
    have HG2 : Hid (∀ V, AW w V → Calls Tryz.prog 12 #[.slice a len cap, .int .i64 0, .bool i] V fun e w' => ∃ (q : Option Addr) (c : Nat), e = .returned (.tuple #[bv dc q n c, .int .i64 b, .int .i64 E]) ∧ Pl w' (.slice q n c) n (fun j => (gg f len (!i) (hP 0 i) j).r) (fun j => (gg f len (!i) (hP 0 i) j).l) ∧ Below V.heap.size V w') := Lib.hid (fun V A => (HG.out V A).mono (by
      rintro e w' ⟨E', dc', b', n', q, c, hgb', rfl, ho, hbel⟩
      obtain ⟨rfl, rfl, rfl, rfl⟩ := hgb.uniq hgb'
      exact ⟨q, c, rfl, ho.pl, hbel⟩))
    have n64 := hgb.n64
    by_cases hE0 : E = 0
    · subst hE0
      obtain ⟨k1, k2, k3⟩ := got_ok hgb (fun j _ => ⟨rfl, rfl⟩)
      generalize (fun j => (gg f len (!i) (hP 0 i) j).r) = r at *
      generalize (fun j => (gg f len (!i) (hP 0 i) j).l) = l at *
      have HP := Lib.hid (fun V B q c (h : BA w B dc q n c r l V) => Put_any2 dc q n c r l i (by omega) V h.px h.t)
      have HC := Lib.hid (fun V B q c (h : BA w B dc q n c r l V) => Check_any dc q n c r l i (by omega) V h.px)
      have hz := ptB_len dc n r l i
      have HB2 := Lib.hid (fun V => lbytes12_any (ptB dc n r l i) (.slice none 0 0) 0 (fun _ => 0) V (by omega) (by omega) (by omega) ⟨none, 0, rfl, Nat.le_refl _, Nat.zero_le _, .inl ⟨rfl, fun _ => rfl⟩⟩)
      have HBT := Lib.hid (fun V => bits_any (ptB dc n r l i) V (by omega))
      have HG1 := Lib.hid (fun V B q c gb (h : BA w B dc q n c r l V) hA hg => gets_back (W := V) (gb := gb) (m := 0) (g := fun _ => 0) n64 (by omega) k1 h.px h.t hA hg)
      rw [k1] at HP HC
      rw [if_pos rfl] at HP
      unfold BytesTo at HB2
      have hS : ∃ S : ByteArray, sv (cs (ptB dc n r l i)) = .string S ∧ S.size = (ptB dc n r l i).length := ⟨_, rfl, by rw [ba_size, cs_len]⟩
      obtain ⟨S, hS, hSz⟩ := hS
      rw [hS] at HP HB2 HBT
      generalize ptB dc n r l i = T at *
      obtain ⟨z, hzz⟩ : ∃ z, T.length = z := ⟨_, rfl⟩
      rw [hzz] at hz hSz HB2 HG1 k2
      obtain ⟨N2, hN2⟩ : ∃ N, (z + 0 + 7) / 8 = N := ⟨_, rfl⟩
      rw [hN2] at HB2 HG1
      have u1 : decide ((z : Int) ≤ b) = true := decide_eq_true k2
      have u2 : decide (b ≤ 8 * (len : Int)) = true := decide_eq_true k3
      have u3 : IntKind.i64.wrap (8 * (len : Int)) = 8 * (len : Int) := IntWalk.i64_in _ (by omega)
      clear HG hgb k1 hS hzz hN2 hs hb n64
      go_enter Tryz.func8, Tryz.ntmps8
      go_wp2_with (first
        | (go_at_call 10; refine (HA.out _ A0.out.t).mono ?_; rintro e w1 ⟨rfl, hb⟩; have A1 := Lib.hid (A0.out.below hb); clear hb)
        | (go_at_call 12; refine (HG2.out _ A1.out).mono ?_; rintro e w2 ⟨q, c, rfl, hpl, hb⟩; have A2 := A1.out.below hb; have X2 := Lib.hid (BA.new (dc := dc) A2.t A2.b hpl); clear hb hpl A2; obtain ⟨k0, k1⟩ := at_cells X2.out.x)
        | (go_at_call 18; refine (HP.out _ _ _ _ X2.out).mono ?_; rintro e w3 ⟨rfl, hb⟩; have X3 := Lib.hid (X2.out.below hb); clear hb k0 k1; obtain ⟨k0, k1⟩ := at_cells X3.out.x))
      have S0 := Lib.hid (X3.out.below (Below.refl _ _).drew)
      clear k0 k1
      obtain ⟨k0, k1⟩ := at_cells S0.out.x
      have PB := Lib.hid (rfl : w2.heap.size = w2.heap.size)
      go_region_held3 (fun w' => w'.cell? ⟨w2.heap.size, 0, none⟩ = some (.int .i64 dc) ∧ w'.cell? ⟨w2.heap.size, 1, none⟩ = some (.slice q n c))
        (first | exact at_cells S0.out.x | exact at_cells S1.out.x | exact at_cells S2.out.x | exact at_cells S3.out.x)
        (first
          | (go_at_call 32; refine (HBT.out _).mono ?_; rintro e V0 ⟨rfl, rfl⟩)
          | (go_at_call 23; have t0 := S0.out; refine (HC.out _ _ _ _ t0).mono ?_; rintro e V1 ⟨rfl, hb⟩; have S1 := Lib.hid (t0.below hb); clear hb t0 S0)
          | (go_at_call 33; have t0 := S1.out; refine (HB2.out _).mono ?_; rintro e V2 ⟨g1, rfl, hA, hl, _, hb⟩; have S2 := Lib.hid (t0.below hb); have A2 := Lib.hid hA; have L2 := Lib.hid hl; clear hA hl hb t0 S1)
          | (go_at_call 30; have t0 := S2.out; refine (HG1.out _ _ _ _ _ t0 A2.out L2.out).mono ?_; rintro e V3 ⟨rfl, hb⟩; have S3 := Lib.hid (t0.below hb); clear hb t0 S2))
      all_goals (go_wp2_with fail; go_ret; exact ⟨rfl, S3.out.b⟩)
    · obtain ⟨rfl, rfl, rfl⟩ := hgb.zero hE0
      have hne : (E != 0) = true := by simp [hE0]
      clear HG hgb hE0 hs hb
      go_enter Tryz.func8, Tryz.ntmps8
      go_wp2_with (first
        | (go_at_call 10; refine (HA.out _ A0.out.t).mono ?_; rintro e w1 ⟨rfl, hb⟩; have A1 := Lib.hid (A0.out.below hb); clear hb)
        | (go_at_call 12; refine (HG2.out _ A1.out).mono ?_; rintro e w2 ⟨q, c, rfl, hpl, hb⟩; have A2 := A1.out.below hb; have X2 := Lib.hid (BA.new (dc := 0) A2.t A2.b hpl); clear hb hpl A2; obtain ⟨k0, k1⟩ := at_cells X2.out.x)
        | (go_at_call 14; refine (SameBlock_eq 0 q none 0 c 0 _ _ _ _ _ (by omega) X2.out.px (pl_nil _ (fun _ => 0) (fun _ => 0)) (fun j hj => by omega)).mono ?_; rintro e w3 ⟨rfl, hb⟩; have X3 := Lib.hid (X2.out.below hb); clear hb))
      go_ret
      exact ⟨rfl, X3.out.b⟩
  · have t1 : (len : Int) > 200 := by omega
    clear hs hb h200
    go_enter Tryz.func8, Tryz.ntmps8
    go_wp2_with (go_at_call 10; refine (HA.out _ A0.out.t).mono ?_; rintro e w5 ⟨rfl, hB⟩; have A1 := Lib.hid (A0.out.below hB))
    go_ret
    exact ⟨rfl, A1.out.b⟩
end
end Dk
end Go.Proofs.YtpibeocngkjolaaGreatDoor


