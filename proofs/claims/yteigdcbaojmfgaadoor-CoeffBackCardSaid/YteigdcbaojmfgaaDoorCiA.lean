/- law08: pair, gets, puts, awake. -/
import Derived.Test.YteigdcbaojmfgaaDoorCfG
namespace Go.Proofs.YteigdcbaojmfgaaDoor
open Go.RowKit
set_option linter.unusedSimpArgs false
set_option linter.unusedVariables false
namespace Cf
section
set_option maxRecDepth 100000
set_option maxHeartbeats 4000000
set_option linter.unusedVariables false
theorem results_pair {fn : Func} {p : Tmp} (hr : fn.results = #[.cell p 26]) (tmps : Array Value) {V : World} {B : Nat} {r l : Int}
    (hp : tmps.getD p undef = .pointer (some ⟨B, 0, none⟩)) (h : V.heap[B]? = some (.cells #[.int .i64 r, .int .i64 l] 26 (0, 0))) : (results fn tmps).run Tryd.prog V = .ok (prV r l) V := by
  have c0 := cell_row h (i := 0) (v := .int .i64 r) rfl
  have c1 := cell_row h (i := 1) (v := .int .i64 l) rfl
  have hp' : tmps[p]?.getD undef = .pointer (some ⟨B, 0, none⟩) := by simpa using hp
  unfold prV
  simp [results, hr, hp', asAddr, loadVar, go_sem, c0, c1, Tryd.underlying26, Tryd.underlying3]
theorem lpair_any (r l : Int) (w : World) : Calls Tryd.prog 25 #[.int .i64 r, .int .i64 l] w fun e w' => e = .returned (prV r l) ∧ Below w.heap.size w w' := by
  have H := Lib.hid (heap_alloc_new w (.cells #[.int .i64 r, .int .i64 l] 26))
  go_enter Tryd.func25, Tryd.ntmps25
  go_wp2_with fail
  exact bodyPost_ret (results_pair rfl _ rfl H.out) rfl ⟨rfl, (Below.refl _ _).alloc (Nat.le_refl _) _⟩
theorem gets_any (v : Value) (N : Nat) (f : Nat → Int) (first : Bool) (r l n e : Int) (w : World) (hN : N ≤ 1000000) (hs : Sl .u8 w v N f) (hb : ∀ j, j < N → 0 ≤ f j ∧ f j ≤ 255) (hT : Tabs w) (h : getF f N 0 first = ⟨r, l, false, n, e⟩) :
    Calls Tryd.prog 24 #[.bool first, prV r l, .int .i64 n, .int .i64 e, v] w fun e w' => e = .returned (.bool true) ∧ Below w.heap.size w w' := by
  have HG := Lib.hid (fun W (hW : Below w.heap.size w W) => Get_any v N f 0 first W hN (hs.below hW) hb (hT.below hW))
  rw [h] at HG
  unfold G5.val prV at HG
  have B0 := Lib.hid ((Below.refl w.heap.size w).alloc (Nat.le_refl _) (.cells #[.int .i64 r, .int .i64 l] 26))
  have hn := heap_alloc_new w (.cells #[.int .i64 r, .int .i64 l] 26)
  have P0 : Hid ((w.alloc (.cells #[.int .i64 r, .int .i64 l] 26)).cell? ⟨w.heap.size, 0, none⟩ = some (.int .i64 r) ∧ (w.alloc (.cells #[.int .i64 r, .int .i64 l] 26)).cell? ⟨w.heap.size, 1, none⟩ = some (.int .i64 l)) := Lib.hid ⟨by rw [cell_of_row _ _ 0 _ _ (0, 0) hn]; rfl, by rw [cell_of_row _ _ 1 _ _ (0, 0) hn]; rfl⟩
  clear h hn hb hs hT
  unfold prV
  go_enter Tryd.func24, Tryd.ntmps24
  go_wp2_with (go_at_call 11; refine (HG.out _ B0.out).mono ?_; rintro e w1 ⟨rfl, hb⟩; have B1 := Lib.hid (chain B0.out hb); have p0 := (hb.cell (World.block_lt_of_cell? _ _ P0.out.1)).trans P0.out.1; have p1 := (hb.cell (World.block_lt_of_cell? _ _ P0.out.2)).trans P0.out.2; have hz : w.heap.size < w1.heap.size := World.block_lt_of_cell? _ _ p0; clear hb)
  go_ret
  exact ⟨rfl, B1.out.alloc B1.out.size _⟩
theorem puts_any (r l : Int) (first : Bool) (x : List UInt8) (w : World) (hT : Tabs w) (hp : pairB r l = true) (hx : putL first r l = x) :
    Calls Tryd.prog 26 #[prV r l, .bool first, sv x] w fun e w' => e = .returned (.bool true) ∧ Below w.heap.size w w' := by
  have HP := Lib.hid (fun W h => Put_any r l first W h)
  rw [hx, hp] at HP
  have P0 := Lib.hid (PK.new r l hT)
  unfold prV sv at *
  obtain ⟨S, hS⟩ : ∃ S : ByteArray, (⟨x.toArray⟩ : ByteArray) = S := ⟨_, rfl⟩
  rw [hS] at HP ⊢
  clear hT hp hx hS
  go_enter Tryd.func26, Tryd.ntmps26
  go_wp2_with (go_at_call 15; refine (HP.out _ P0.out.t).mono ?_; rintro e w1 ⟨rfl, hB⟩; have P1 := Lib.hid (P0.out.below hB); clear hB)
  go_ret
  exact ⟨rfl, P1.out.bel⟩
/-- a new block of bytes. -/
def byF (bs : List Nat) : Nat → Int := fun i => (bs.getD i 0 : Nat)
theorem byF_sl (bs : List Nat) (W : World) (cs : Array Value) (hc : cs = (bs.map fun x : Nat => Value.int .u8 (x : Int)).toArray) (hl : bs.length ≤ maxLen) : Sl .u8 (W.alloc (.cells cs 5)) (.slice (some ⟨W.heap.size, 0, none⟩) bs.length bs.length) bs.length (byF bs) := by
  refine ⟨_, _, rfl, Nat.le_refl _, hl, .inr ⟨_, 0, rfl, by simp, ?_⟩⟩
  refine (Arr.new W .u8 cs _ bs.length (byF bs) fun i hi => ?_).ints
  subst hc
  simp [byF, hi]
theorem gets_new (first : Bool) (r l n e : Int) (bs : List Nat) (cs : Array Value) (k : Nat) (W : World) (hT : Tabs W) (hc : cs = (bs.map fun x : Nat => Value.int .u8 (x : Int)).toArray) (hk : bs.length = k) (hl : bs.length ≤ 3) (hb : ∀ x ∈ bs, x ≤ 255) (h : getF (byF bs) bs.length 0 first = ⟨r, l, false, n, e⟩) :
    Calls Tryd.prog 24 #[.bool first, .agg #[.int .i64 r, .int .i64 l], .int .i64 n, .int .i64 e, .slice (some ⟨W.heap.size, 0, none⟩) k k] (W.alloc (.cells cs 5)) fun e w' => e = .returned (.bool true) ∧ Below W.heap.size W w' := by
  subst hk
  have hB : Below W.heap.size W (W.alloc (.cells cs 5)) := (Below.refl _ W).alloc (Nat.le_refl _) _
  refine (gets_any _ bs.length (byF bs) first r l n e _ (by omega) (byF_sl bs W cs hc (by unfold maxLen; omega)) (fun j hj => ?_) (hT.below hB) h).mono fun e w' ⟨h1, h2⟩ => ⟨h1, chain hB h2⟩
  unfold byF
  have : bs.getD j 0 ∈ bs := by rw [List.getD_eq_getElem?_getD, List.getElem?_eq_getElem hj]; exact List.getElem_mem _
  have := hb _ this
  omega
end
deriving instance DecidableEq for G5
theorem known1 : getF (byF [192]) 1 0 true = ⟨0, -1, false, 2, 0⟩ := by decide +kernel
theorem known2 : getF (byF [192]) 1 0 false = ⟨0, 1, false, 3, 0⟩ := by decide +kernel
theorem known3 : getF (byF [4, 3, 16]) 3 0 false = ⟨0, 49, false, 20, 0⟩ := by decide +kernel
theorem known4 : putL true 26 (-1) = [48, 48, 48, 48, 48, 48, 48, 48, 49, 49, 48, 49, 49, 49] := by decide +kernel
end Cf
end Go.Proofs.YteigdcbaojmfgaaDoor
