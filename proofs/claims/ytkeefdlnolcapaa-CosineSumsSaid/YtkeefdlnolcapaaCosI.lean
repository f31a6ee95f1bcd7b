/- cosine.Line. -/
import Derived.Test.YtkeefdlnolcapaaCosE
import Derived.Test.YtkeefdlnolcapaaPlCos2
import Derived.Deep.Cut
namespace Go.Proofs.Ytkeefdlnolcapaa
open Go.RowKit

theorem Ints.range {w : World} {k : IntKind} {b o n : Nat} {f : Nat → Int} (h : Ints w k b o n f) : w.rangeAt b o ((List.range n).map fun i => Value.int k (f i)) := by
  intro j u hu
  have hj : j < n := by
    have := (List.getElem?_eq_some_iff.1 hu).1
    simpa using this
  rw [h j hj]
  simpa [hj] using hu
/-- numbers of a slice, loaded as an array. -/
theorem wpList_load_ints {P : Program} {ops : Array Oper} {rest : List Oper} {o : Oper} {a : Act} {w : World} {Q : Exit → Act → World → Prop} (hgd : o.guard = none) (ty : TypeId) (x : Operand) (ho : o.op = .load ty x)
    {k : IntKind} {g off n m : Nat} {f : Nat → Int} {e : TypeId} (hx : a.eval x = .pointer (some ⟨g, off, none⟩)) (h : Ints w k g off n f) (hu : P.underlying ty = some (.array m e)) (hi : (P.info? ty).map (·.size) = some n)
    (hK : wpList P ops Q rest (a.put o.dst (.agg (rowOf k n f))) w) : wpList P ops Q (o :: rest) a w :=
  wpList_load_mid hgd ty x ho g off hx ((List.range n).map fun i => Value.int k (f i)) (.array m e) h.range hu rfl (by simpa using hi) hK
theorem run_arrayAt {P : Program} (w : World) {ty e : TypeId} {m n c : Nat} {a : Option Addr} (hu : P.underlying ty = some (.array m e)) (h : m ≤ n) : (Instr.arrayAt ty (.slice a n c)).run P w = .ok (.pointer a) w := by
  have : ¬ n < m := by omega
  simp [Instr.arrayAt, run_underlying hu w, this]
namespace Co

def inR (lo hi x : Int) : Bool := decide (lo ≤ x ∧ x ≤ hi)
theorem inR_yes {lo hi x : Int} (h : inR lo hi x = true) : lo ≤ x ∧ x ≤ hi := by unfold inR at h; simpa using h
theorem inR_no {lo hi x : Int} (h : inR lo hi x = false) : x < lo ∨ hi < x := by unfold inR at h; simp only [decide_eq_false_iff_not] at h; omega
/-- may the first k numbers all be taken? -/
def okR (lo hi : Int) (f : Nat → Int) (k : Nat) : Bool := (List.range k).all fun i => inR lo hi (f i)
theorem okR_succ (lo hi : Int) (f : Nat → Int) (k : Nat) : okR lo hi f (k + 1) = (okR lo hi f k && inR lo hi (f k)) := by unfold okR; rw [List.range_succ]; simp
theorem okR_at {lo hi : Int} {f : Nat → Int} {k : Nat} (h : okR lo hi f k = true) (i : Nat) (hik : i < k) : inR lo hi (f i) = true := by
  unfold okR at h; rw [List.all_eq_true] at h; exact h i (List.mem_range.2 hik)
theorem okR_not {lo hi : Int} {f : Nat → Int} {k i : Nat} (hik : i < k) (h : inR lo hi (f i) = false) : okR lo hi f k = false := by
  cases e : okR lo hi f k
  · rfl
  · rw [okR_at e i hik] at h; cases h
theorem okR_all {lo hi : Int} {f : Nat → Int} {k : Nat} (h : ∀ i, i < k → lo ≤ f i ∧ f i ≤ hi) : okR lo hi f k = true := by
  unfold okR; rw [List.all_eq_true]; intro i hik
  have := h i (List.mem_range.1 hik)
  unfold inR; simp; omega
def okL (f : Nat → Int) (k : Nat) : Bool := okR (-1099511627776) 1099511627776 f k
/-- the error of Line, and how many numbers it tells. -/
def lE (n : Nat) (f : Nat → Int) : Int := if n = 8 then (if okL f 8 then 0 else 3) else 2
def lN (n : Nat) (f : Nat → Int) : Nat := if n = 8 then (if okL f 8 then 8 else 0) else 0
def lineC (f : Nat → Int) (x : Nat) : Int := accW f x 8
/-- what Line comes to. -/
def Lines (w : World) (n : Nat) (f : Nat → Int) (e : Ending) (w' : World) : Prop :=
  ∃ v, e = .returned (.tuple #[v, .int .i64 (lE n f)]) ∧ Res .i64 w.heap.size w' v (lN n f) (lineC f) ∧ Below w.heap.size w w'

theorem line_long (a : Option Addr) (n c : Nat) (f : Nat → Int) (w : World) (h : n ≠ 8) :
    Calls Try.prog 23 #[.slice a n c] w (Lines w n f) := by
  have e1 : lE n f = 2 := by unfold lE; rw [if_neg h]
  have e2 : lN n f = 0 := by unfold lN; rw [if_neg h]
  have k : ((n : Int) == 8) = false := by simp; omega
  have E1 := Lib.hid e1
  have E2 := Lib.hid e2
  clear e1 e2
  go_enter Try.func23, Try.ntmps23
  go_wp2
  go_ret2
  exact ⟨.slice none 0 0, by rw [E1.out]; rfl, by rw [E2.out]; exact .inl ⟨rfl, rfl⟩, Below.refl _ _⟩

set_option maxRecDepth 100000 in
set_option maxHeartbeats 2000000 in
theorem line_row (b o c : Nat) (f : Nat → Int) (w : World) (h : Ints w .i64 b o 8 f) (_hc : 8 ≤ c) :
    Calls Try.prog 23 #[.slice (some ⟨b, o, none⟩) 8 c] w (Lines w 8 f) := by
  have hblt := h.lt (by omega)
  have H := Lib.hid h
  have HE : Hid (lE 8 f = if okL f 8 then 0 else 3) := by show _ = _; unfold lE; rw [if_pos rfl]
  have HN : Hid (lN 8 f = if okL f 8 then 8 else 0) := by show _ = _; unfold lN; rw [if_pos rfl]
  clear h
  go_enter Try.func23, Try.ntmps23
  go_wp2
  go_loopw [13] (fun i wr => ∃ k : Nat, k ≤ 8 ∧ i = .int .i64 k ∧ okL f k = true ∧ wr = w) (fun i _ => 8 - (intOf i).toNat)
  case atStart => exact ⟨0, by omega, rfl, rfl, rfl⟩
  case round =>
    obtain ⟨k, hk, rfl, hok, rfl⟩ := hrel
    by_cases hk8 : k < 8
    · have ck := H.out.at k hk8
      have kb : (0 : Int) ≤ (k : Int) ∧ (k : Int) < 8 := by omega
      have OK := Lib.hid hok
      clear hok
      cases hkk : inR (-1099511627776) 1099511627776 (f k)
      · have EA : Hid (okL f 8 = false) := Lib.hid (okR_not hk8 hkk)
        rcases inR_no hkk with g | g
        · have _d : decide (f k < -1099511627776) = true := by simp; omega
          clear hkk
          go_wp2
          go_ret2
          exact ⟨.slice none 0 0, by rw [HE.out, EA.out]; rfl, by rw [HN.out, EA.out]; exact .inl ⟨rfl, rfl⟩, Below.refl _ _⟩
        · have _d : decide (f k < -1099511627776) = false := by simp; omega
          have _d2 : decide (1099511627776 < f k) = true := by simp; omega
          clear hkk
          go_wp2
          go_ret2
          exact ⟨.slice none 0 0, by rw [HE.out, EA.out]; rfl, by rw [HN.out, EA.out]; exact .inl ⟨rfl, rfl⟩, Below.refl _ _⟩
      · have g := inR_yes hkk
        have _d : decide (f k < -1099511627776) = false := by simp; omega
        have _d2 : decide (1099511627776 < f k) = false := by simp; omega
        have KK := Lib.hid hkk
        clear hkk
        go_wp2
        go_roundw
        case rel => exact ⟨k + 1, by omega, by go_num, by have := OK.out; unfold okL at *; rw [okR_succ, this, KK.out]; rfl, by first | rfl | trivial⟩
        case measure => simp [intOf]; omega
    · have hok' : okL f 8 = true := by
        obtain rfl : k = 8 := by omega
        exact hok
      have HE' : Hid (lE 8 f = 0) := Lib.hid (by rw [HE.out, hok']; rfl)
      have HN' : Hid (lN 8 f = 8) := Lib.hid (by rw [HN.out, hok']; rfl)
      have hk' : 8 ≤ k := by omega
      have SA := fun w' => run_arrayAt (P := Try.prog) (n := 8) (c := c) (a := some ⟨b, o, none⟩) w' Try.underlying57 (Nat.le_refl 8)
      clear hok hok' hk hk8 HE HN
      go_wp2_with (first
        | (go_at_call 43; refine (weights_any _).mono ?_; rintro e w1 ⟨rfl, b1⟩; have H := Lib.hid (H.out.below b1 hblt); have HB := Lib.hid b1; have z1 := b1.size; have A0 := Lib.hid (Arr.new w1 .i64 (rowOf .i64 64 (fun _ => 0)) 58 64 (fun _ => 0) (fun i hi => rowOf_get _ _ _ _ hi)); clear b1)
        | (refine wpList_store_arr rfl 58 (.tmp 6) (.tmp 24) rfl rfl rfl A0.out (by kernel_rfl) ?_; intro w2 HW2 HG2; have HB := Lib.hid (((HB.out.alloc z1 _).grown HG2.out (by simp; omega) (fun g hg => by cases hg; exact z1))); have H := Lib.hid ((H.out.alloc _).grown HG2.out (fun e => by have := Option.some.inj e; omega)))
        | (refine wpList_load_ints rfl 57 (.tmp 26) rfl rfl H.out Try.underlying57 (by kernel_rfl) ?_)
        | (go_at_call 46; refine (line_any f w1.heap.size _ HW2.out).mono ?_; rintro e w3 ⟨rfl, b3⟩; have HB := Lib.hid (chain HB.out b3); have z3 := HB.out.size; have A3 := Lib.hid (Arr.new w3 .i64 (rowOf .i64 8 (fun _ => 0)) 57 8 (fun _ => 0) (fun i hi => rowOf_get _ _ _ _ hi)); clear b3)
        | (refine wpList_store_arr rfl 57 (.tmp 7) (.tmp 28) rfl rfl rfl A3.out (by kernel_rfl) ?_; intro w4 HW4 HG4; have HB := Lib.hid (((HB.out.alloc z3 _).grown HG4.out (by simp; omega) (fun g hg => by cases hg; exact z3)))))
      go_ret2
      exact ⟨_, by rw [HE'.out]; rfl, by rw [HN'.out]; exact .inr ⟨w3.heap.size, 8, rfl, z3, HW4.out.lt (by omega), Nat.le_refl _, by decide, HW4.out⟩, HB.out⟩

theorem Line_any (v : Value) (n : Nat) (f : Nat → Int) (w : World) (hs : Sl .i64 w v n f) :
    Calls Try.prog 23 #[v] w (Lines w n f) := by
  obtain ⟨a, c, rfl, h1, h2, h3⟩ := hs
  by_cases h : n = 8
  · subst h
    rcases h3 with ⟨h3, _⟩ | ⟨b, o, rfl, _, h4⟩
    · omega
    · exact line_row b o c f w h4 h1
  · exact line_long a n c f w h
end Co
end Go.Proofs.Ytkeefdlnolcapaa
