/- paint: corner, Lay. -/
import Derived.Test.YtkeempljogjceaaPa3
namespace Go.Proofs.Ytkeempljogjceaa
open Go.RowKit Go.Shelf
attribute [local go_sem] Oper.semAt_some
namespace Pa
open Fr Pt

def spV (n g a : Int) : Value := .agg #[.int .i64 n, .int .i64 g, .int .i64 a]
def coN (n g a : Int) : Int := if cE n g a = 0 then zV n else 0
theorem corner_any (n g a : Int) (w : World) : Calls Try.prog 38 #[.agg #[.int .i64 n, .int .i64 g, .int .i64 a]] w fun e w' => e = .returned (.tuple #[.int .i64 (coN n g a), .int .i64 (cE n g a)]) ∧ Below w.heap.size w w' := by
  by_cases hc : cE n g a = 0
  · have hf : fE n = 0 := by unfold fE; rw [if_pos (cE_cases n g a hc).1]
    have E : Hid (coN n g a = zV n) := Lib.hid (by unfold coN; rw [if_pos hc])
    have HC := Lib.hid hc
    have HF := Lib.hid hf
    clear hc hf
    go_enter Try.func38, Try.ntmps38
    go_wp2_with (first
      | (go_at_call 43; refine (Corner_any n g a _).mono ?_; rintro e w1 ⟨rfl, hB⟩; rw [HC.out]; have HB := Lib.hid (chain (((Below.refl w.heap.size w).alloc (Nat.le_refl _) _)) hB); have c0 := (bcell hB).1 w.heap.size; clear hB)
      | (go_at_call 44; refine (Size_any n _).mono ?_; rintro e w2 ⟨rfl, rfl⟩; rw [HF.out]))
    go_ret2
    exact ⟨by rw [E.out, HC.out]; rfl, HB.out⟩
  · have E : Hid (coN n g a = 0) := Lib.hid (by unfold coN; rw [if_neg hc])
    obtain ⟨x, hx⟩ : ∃ x, cE n g a = x := ⟨_, rfl⟩
    have HX := Lib.hid hx
    rw [hx] at hc
    have t0 : (x != 0) = true := by simpa using hc
    clear hc hx
    go_enter Try.func38, Try.ntmps38
    go_wp2_with (go_at_call 43; refine (Corner_any n g a _).mono ?_; rintro e w1 ⟨rfl, hB⟩; rw [HX.out]; have HB := Lib.hid (chain (((Below.refl w.heap.size w).alloc (Nat.le_refl _) _)) hB); clear hB)
    go_ret2
    exact ⟨by rw [E.out, HX.out]; rfl, HB.out⟩
/-- why nothing is laid, or that it is. -/
def layE (n g a k : Int) (N M : Nat) : Int := if cE n g a ≠ 0 then cE n g a else if (N : Int) ≠ zV n ∨ M ≠ 64 then 2 else if k < 1 ∨ 6 < k then 3 else 0
theorem lay_no1 (p q : Option Addr) (N c M d : Nat) (n g a k : Int) (w : World) (hc : cE n g a ≠ 0) :
    Calls Try.prog 28 #[.slice p N c, .agg #[.int .i64 n, .int .i64 g, .int .i64 a], .int .i64 k, .slice q M d] w fun e w' => e = .returned (.int .i64 (layE n g a k N M)) ∧ Below w.heap.size w w' := by
  have E : Hid (layE n g a k N M = cE n g a) := Lib.hid (by unfold layE; rw [if_pos hc])
  obtain ⟨x, hx⟩ : ∃ x, cE n g a = x := ⟨_, rfl⟩
  have HX := Lib.hid hx
  rw [hx] at hc
  have t0 : (x != 0) = true := by simpa using hc
  clear hc hx
  go_enter Try.func28, Try.ntmps28
  go_wp2_with (go_at_call 38; refine (corner_any n g a _).mono ?_; rintro e w1 ⟨rfl, hB⟩; rw [HX.out]; have HB := Lib.hid (chain ((((Below.refl w.heap.size w).alloc (Nat.le_refl _) _)).alloc (by simp) _) hB); clear hB)
  go_ret
  exact ⟨by rw [E.out, HX.out]; rfl, HB.out⟩
theorem lay_no2 (p q : Option Addr) (N c M d : Nat) (n g a k : Int) (w : World) (hc : cE n g a = 0) (hN : (N : Int) ≠ zV n) :
    Calls Try.prog 28 #[.slice p N c, .agg #[.int .i64 n, .int .i64 g, .int .i64 a], .int .i64 k, .slice q M d] w fun e w' => e = .returned (.int .i64 (layE n g a k N M)) ∧ Below w.heap.size w w' := by
  have E : Hid (layE n g a k N M = 2) := Lib.hid (by unfold layE; rw [if_neg (by omega), if_pos (.inl hN)])
  obtain ⟨z, hz⟩ : ∃ z, zV n = z := ⟨_, rfl⟩
  have HZ : Hid (coN n g a = z) := Lib.hid (by unfold coN; rw [if_pos hc, hz])
  have HX := Lib.hid hc
  rw [hz] at hN
  have t0 : ((N : Int) != z) = true := by simpa using hN
  clear hc hz hN
  go_enter Try.func28, Try.ntmps28
  go_wp2_with (go_at_call 38; refine (corner_any n g a _).mono ?_; rintro e w1 ⟨rfl, hB⟩; rw [HX.out, HZ.out]; have HB := Lib.hid (chain ((((Below.refl w.heap.size w).alloc (Nat.le_refl _) _)).alloc (by simp) _) hB); clear hB)
  go_ret
  exact ⟨by rw [E.out]; rfl, HB.out⟩
theorem lay_no3 (p q : Option Addr) (N c M d : Nat) (n g a k : Int) (w : World) (hc : cE n g a = 0) (hN : (N : Int) = zV n) (hM : M ≠ 64) :
    Calls Try.prog 28 #[.slice p N c, .agg #[.int .i64 n, .int .i64 g, .int .i64 a], .int .i64 k, .slice q M d] w fun e w' => e = .returned (.int .i64 (layE n g a k N M)) ∧ Below w.heap.size w w' := by
  have E : Hid (layE n g a k N M = 2) := Lib.hid (by unfold layE; rw [if_neg (by omega), if_pos (.inr hM)])
  have HZ : Hid (coN n g a = (N : Int)) := Lib.hid (by unfold coN; rw [if_pos hc, hN])
  have HX := Lib.hid hc
  have t0 : ((M : Int) != 64) = true := by simp; omega
  clear hc hN hM
  go_enter Try.func28, Try.ntmps28
  go_wp2_with (go_at_call 38; refine (corner_any n g a _).mono ?_; rintro e w1 ⟨rfl, hB⟩; rw [HX.out, HZ.out]; have HB := Lib.hid (chain ((((Below.refl w.heap.size w).alloc (Nat.le_refl _) _)).alloc (by simp) _) hB); have c0 := (bcell hB).1 (w.heap.size + 1); clear hB)
  go_ret
  exact ⟨by rw [E.out]; rfl, HB.out⟩
theorem lay_no4 (p q : Option Addr) (N c d : Nat) (n g a k : Int) (w : World) (hc : cE n g a = 0) (hN : (N : Int) = zV n) (hk : k < 1 ∨ 6 < k) :
    Calls Try.prog 28 #[.slice p N c, .agg #[.int .i64 n, .int .i64 g, .int .i64 a], .int .i64 k, .slice q 64 d] w fun e w' => e = .returned (.int .i64 (layE n g a k N 64)) ∧ Below w.heap.size w w' := by
  have E : Hid (layE n g a k N 64 = 3) := Lib.hid (by unfold layE; rw [if_neg (by omega), if_neg (by omega), if_pos hk])
  have HZ : Hid (coN n g a = (N : Int)) := Lib.hid (by unfold coN; rw [if_pos hc, hN])
  have HP : Hid (pE n g a k = 3) := Lib.hid (by unfold pE; rw [if_neg (by omega), if_pos hk])
  have HX := Lib.hid hc
  clear hc hN hk
  go_enter Try.func28, Try.ntmps28
  go_wp2_with (first
    | (go_at_call 38; refine (corner_any n g a _).mono ?_; rintro e w1 ⟨rfl, hB⟩; rw [HX.out, HZ.out]; have HB := Lib.hid (chain ((((Below.refl w.heap.size w).alloc (Nat.le_refl _) _)).alloc (by simp) _) hB); have c0 := (bcell hB).1 (w.heap.size + 1); have c1 := (bcell hB).1 w.heap.size; clear hB)
    | (go_at_call 39; refine (Place_any n g a k _).mono ?_; rintro e w2 ⟨rfl, hB⟩; rw [HP.out]; have HB2 := Lib.hid (chain HB.out hB); clear hB))
  go_ret
  exact ⟨by rw [E.out]; rfl, HB2.out⟩
theorem place_fit (n g a k : Int) (hc : cE n g a = 0) (hk : 1 ≤ k ∧ k ≤ 6) : 0 ≤ pA n g a k ∧ (8 ≤ pS n g a k ∧ pS n g a k ≤ 352) ∧ pA n g a k + 7 * pS n g a k + 8 ≤ zV n := by
  have e1 : pE n g a k = 0 := by unfold pE; rw [if_neg (by omega), if_neg (by omega)]
  have h1 := cX_bd n g a hc
  have h2 := cY_bd n g a hc
  obtain ⟨X, hX⟩ : ∃ X, cX n g a = X := ⟨_, rfl⟩
  obtain ⟨Y, hY⟩ : ∃ Y, cY n g a = Y := ⟨_, rfl⟩
  unfold pA pS
  rw [e1, if_pos rfl, if_pos rfl]
  rw [hX] at h1 ⊢
  rw [hY] at h2 ⊢
  have w0 : wV 0 = 176 := rfl
  have w1 : wV 1 = 352 := rfl
  have v0 : hV 0 = 144 := rfl
  have v1 : hV 1 = 288 := rfl
  have z0 : zV 0 = 38016 := rfl
  have z1 : zV 1 = 152064 := rfl
  rcases (cE_cases n g a hc).1 with rfl | rfl
  · unfold bA bS
    rw [w0] at h1 ⊢
    rw [v0] at h2 ⊢
    rw [z0]
    by_cases h4 : k ≤ 4
    · rw [if_pos h4, if_pos h4]; omega
    · rw [if_neg h4, if_neg h4]; omega
  · unfold bA bS
    rw [w1] at h1 ⊢
    rw [v1] at h2 ⊢
    rw [z1]
    by_cases h4 : k ≤ 4
    · rw [if_pos h4, if_pos h4]; omega
    · rw [if_neg h4, if_neg h4]; omega
theorem size_byte : (Try.prog.info? 5).map (·.size) = some 1 := by kernel_rfl
theorem own_arr {β : Type} {B b N : Nat} (hb : b < B) (F : β → Nat → Int) : OwnFrom B (fun x V => Arr V .u8 b N (F x)) := fun s A C row h hg hr => h.grown hg (fun e => by have := (hr b e.symm).1; omega)
theorem own_ints {β : Type} {B b o N : Nat} (hb : b < B) (F : Nat → Int) : OwnFrom B (fun (_ : β) V => Ints V .u8 b o N F) := fun s A C row h hg hr => h.grown hg (fun e => by have := (hr b e.symm).1; omega)
theorem own_grown {β : Type} {B : Nat} {w : World} (row : Option Nat) (hB : w.heap.size ≤ B) : OwnFrom B (fun (_ : β) W => w.grownBy W row) :=
  fun s A C row2 h hg hr => ⟨hg.os.trans h.os, hg.tape.trans h.tape, hg.output.trans h.output, Nat.le_trans h.size hg.size, fun i hi hne => (hg.block i (Nat.lt_of_lt_of_le hi h.size) (fun e => by have := (hr i e.symm).1; omega)).trans (h.block i hi hne)⟩
theorem kpA_grown {B l b : Nat} {V V' : World} (hg : V.grownBy V' (some b)) (hb : b < B) : KpA B l V V' := ⟨hg.size, fun i hi _ o ho => (hg.block i (Array.getElem?_eq_some_iff.1 ho).1 (fun e => by have := Option.some.inj e; omega)).trans ho⟩
set_option maxRecDepth 100000 in
set_option maxHeartbeats 4000000 in
theorem lay_yes (b N R c sb so sc A S : Nat) (f s : Nat → Int) (n g a k : Int) (w : World) (hA : Arr w .u8 b R f) (hR : N ≤ R) (hNc : N ≤ c) (hI : Ints w .u8 sb so 64 s) (hsc : 64 ≤ sc) (hne : sb ≠ b) (hc : cE n g a = 0) (hN : (N : Int) = zV n) (hk : 1 ≤ k ∧ k ≤ 6) (hAp : (A : Int) = pA n g a k) (hSp : (S : Int) = pS n g a k) :
    Calls Try.prog 28 #[.slice (some ⟨b, 0, none⟩) N c, .agg #[.int .i64 n, .int .i64 g, .int .i64 a], .int .i64 k, .slice (some ⟨sb, so, none⟩) 64 sc] w fun e w' => e = .returned (.int .i64 0) ∧ Arr w' .u8 b R (layN A S s f 64) ∧ w.grownBy w' (some b) := by
  have fit := place_fit n g a k hc hk
  have zb : zV n ≤ 152064 := by rcases (cE_cases n g a hc).1 with rfl | rfl <;> decide
  have fitN : A + 7 * S + 8 ≤ N ∧ A ≤ 200000 ∧ S ≤ 400 := by omega
  have HZ : Hid (coN n g a = (N : Int)) := Lib.hid (by unfold coN; rw [if_pos hc, hN])
  have HP : Hid (pE n g a k = 0) := Lib.hid (by unfold pE; rw [if_neg (by omega), if_neg (by omega)])
  have HA1 := Lib.hid hAp
  have HS1 := Lib.hid hSp
  have HX := Lib.hid hc
  have hbl := hA.lt (by omega)
  have hsl := hI.lt (by omega)
  clear hc hN hk fit zb hAp hSp
  refine (callsIn_wide (n := 12)).1 ?_
  refine callsIn_of_wp_marks Try.func28 rfl trivial ?_ rfl
  simp only [Try.ntmps28, List.size_toArray, List.length_cons, List.length_nil, Nat.reduceAdd, Nat.reduceSub, Array.replicate_succ, Array.replicate_zero, List.push_toArray, List.append_toArray, List.nil_append, List.cons_append]
  have b7 := Boxed.new (w.alloc (.cells #[.int .i64 n, .int .i64 g, .int .i64 a] 29)) 24 (.slice (some ⟨sb, so, none⟩) 64 sc)
  simp only [World.size_alloc] at b7
  gi_wp2_with (first
    | (refine ⟨trivial, ?_⟩; gi_at_call 38; refine (callsIn_wide.2 (corner_any n g a _)).mono ?_; rintro e w1 ⟨rfl, hB⟩; rw [HX.out, HZ.out]; have HB := Lib.hid (chain ((((Below.refl w.heap.size w).alloc (Nat.le_refl _) _)).alloc (by simp) _) hB); have B7 := Lib.hid (b7.kept (grown_of_below hB none) (by simp)); have c0 := (bcell hB).1 (w.heap.size + 1); have c1 := (bcell hB).1 w.heap.size; clear hB b7)
    | (refine ⟨trivial, ?_⟩; gi_at_call 39; refine (callsIn_wide.2 (Place_any n g a k _)).mono ?_; rintro e w2 ⟨rfl, hB⟩; rw [HP.out, ← HA1.out, ← HS1.out]; have HB2 := Lib.hid (chain HB.out hB); have B72 := Lib.hid (B7.out.kept (grown_of_below hB none) (by simp)); clear hB c0 c1)
    | (refine ⟨trivial, ?_⟩; gi_at_call 40; refine (rows_in _ _ N c rfl _ _ _ _).mono ?_))
  have d1 := ((Boxed.new w2 24 (.slice (some ⟨b, 0, none⟩) N c)).alloc (.cells #[.int .i64 (A : Int)] 3)).alloc (.cells #[.int .i64 (S : Int)] 3)
  have d2 := (Boxed.new (w2.alloc (.cells #[.slice (some ⟨b, 0, none⟩) N c] 24)) 3 (.int .i64 (A : Int))).alloc (.cells #[.int .i64 (S : Int)] 3)
  have d3 := Boxed.new ((w2.alloc (.cells #[.slice (some ⟨b, 0, none⟩) N c] 24)).alloc (.cells #[.int .i64 (A : Int)] 3)) 3 (.int .i64 (S : Int))
  simp only [World.size_alloc] at d2 d3
  have b3 : Below w2.heap.size w2 (((w2.alloc (.cells #[.slice (some ⟨b, 0, none⟩) N c] 24)).alloc (.cells #[.int .i64 (A : Int)] 3)).alloc (.cells #[.int .i64 (S : Int)] 3)) := (((Below.refl w2.heap.size w2).alloc (Nat.le_refl _) _).alloc (by simp) _).alloc (by simp; omega) _
  rintro e W1 ⟨rfl, hW1⟩
  rw [← hW1] at d1 d2 d3 b3
  have B73 := B72.out.kept (grown_of_below b3 none) (by simp)
  have BW := chain HB2.out b3
  have hA3 := hA.below BW hbl
  have hI3 := hI.below BW hsl
  have sw := HB2.out.size
  have sw3 := b3.size
  clear hW1 B72 B7 HB HB2 b3 hA hI
  gi_wp2
  refine rangeN (gf := 56) (lb := #[.pointer (some ⟨w2.heap.size, 0, none⟩), .pointer (some ⟨w2.heap.size + 1, 0, none⟩), .pointer (some ⟨w2.heap.size + 2, 0, none⟩)]) rfl (enters_of Try.func56 (by kernel_rfl) rfl)
    (rows_seq b N c A S fitN.1 hNc fitN.2.1 fitN.2.2 11 (by decide) w2.heap.size _ _ _ (Nat.le_refl _) (by omega) (by omega) W1 d1 d2 d3) kpA_t kpA_l (fun _ => rfl)
    (fun pre V => Arr V .u8 b R (layR A S s f pre) ∧ Ints V .u8 sb so 64 s ∧ Boxed V (w.heap.size + 1) 24 (.slice (some ⟨sb, so, none⟩) 64 sc) ∧ w.grownBy V (some b))
    (fun c pre V => False)
    (OwnFrom.and (own_arr (by omega) (layR A S s f)) (OwnFrom.and (own_ints (by omega) s) (OwnFrom.and (Own.from (boxed_own _ _ (fun _ => _)) _) (own_grown (some b) (by omega)))))
    (fun c => fun s A C row h hg hr => h.elim)
    ⟨hA3, hI3, B73, grown_of_below BW _⟩
    (fun x a' V => a' = { tmps := #[.slice (some ⟨b, 0, none⟩) N c, .agg #[.int .i64 n, .int .i64 g, .int .i64 a], .int .i64 k, .slice (some ⟨sb, so, none⟩) 64 sc, undef, .pointer (some ⟨w.heap.size, 0, none⟩), undef, .pointer (some ⟨w.heap.size + 1, 0, none⟩), .int .i64 0, .int .i64 (N : Int), .int .i64 0, .int .i64 (A : Int), .int .i64 (S : Int), .int .i64 (x.val : Int), .slice (some ⟨b, A + x.val * S, none⟩) 8 (c - (A + x.val * S)), .tuple #[.int .i64 (N : Int), .int .i64 0], .agg #[.int .i64 n, .int .i64 g, .int .i64 a], .tuple #[.int .i64 (N : Int), .int .i64 0], .int .i64 (N : Int), .int .i64 0, .bool false, .int .i64 0, .bool false, undef, .bool false, .slice (some ⟨b, 0, none⟩) N c, .int .i64 (N : Int), .int .i64 (N : Int), .bool false, .bool false, .slice (some ⟨sb, so, none⟩) 64 sc, .int .i64 64, .bool false, .bool false, .tuple #[.int .i64 (A : Int), .int .i64 (S : Int), .int .i64 0], .pointer (some ⟨w.heap.size, 0, none⟩), .int .i64 n, .pointer (some ⟨w.heap.size, 1, none⟩), .int .i64 g, .pointer (some ⟨w.heap.size, 2, none⟩), .int .i64 a, .int .i64 k, .tuple #[.int .i64 (A : Int), .int .i64 (S : Int), .int .i64 0], .int .i64 (A : Int), .int .i64 (S : Int), .int .i64 0, .int .i64 0, .bool false, undef, .slice (some ⟨b, 0, none⟩) N c, .int .i64 (A : Int), .int .i64 (S : Int), .func (.func 56) #[] #[.pointer (some ⟨w2.heap.size, 0, none⟩), .pointer (some ⟨w2.heap.size + 1, 0, none⟩), .pointer (some ⟨w2.heap.size + 2, 0, none⟩)], .int .i64 (x.val : Int), .slice (some ⟨b, A + x.val * S, none⟩) 8 (c - (A + x.val * S)), undef, undef, undef, undef, undef, undef, undef, undef, undef], defers := [] })
    (fun x a' => fun s A C row h hg hr => h)
    ?assign ?body ?done ?stop
  case assign =>
    rintro l pre x V K sV hl ⟨h1, h2, h3, h4⟩ hK
    dsimp only [encR]
    gi_wp2
    exact hK _ _ (KeepsFrom.refl _ _) (kpA_refl V) ⟨h1, h2, h3, h4⟩ rfl
  case body =>
    rintro l pre x a' V hl ⟨r, hr⟩ ⟨h1, h2, h3, h4⟩ rfl hlt
    have xb := x.isLt
    obtain ⟨y, hy⟩ : ∃ y : Nat, x.val = y := ⟨_, rfl⟩
    obtain ⟨q, hq⟩ : ∃ q : Nat, 8 * y = q := ⟨_, rfl⟩
    obtain ⟨o, ho⟩ : ∃ o : Nat, A + y * S = o := ⟨_, rfl⟩
    have hyS : y * S ≤ 7 * S := Nat.mul_le_mul_right S (by omega)
    have ob : o + 8 ≤ N := by omega
    have qb : q ≤ 56 := by omega
    have c7 := h3.cell
    have e1 : IntKind.i64.wrap (8 * (y : Int)) = (q : Int) := by rw [show 8 * (y : Int) = (q : Int) by omega]; exact IntWalk.i64_in _ (by omega)
    have e2 : IntKind.i64.wrap ((q : Int) + 8) = (q : Int) + 8 := IntWalk.i64_in _ (by omega)
    have sl := fun W => slice_row sb so 64 sc q (by omega) hsc W
    have src : ∀ j, j < 8 → V.cell? ((⟨sb, so + q, none⟩ : Addr).add j) = some (.int .u8 (s (q + j))) := fun j hj => by
      have := h2 (q + j) (by omega)
      rw [← Nat.add_assoc] at this
      rw [Addr.add_lit]
      exact this
    have SRC := Lib.hid src
    have HA := Lib.hid h1
    have HI := Lib.hid h2
    have HB := Lib.hid h3
    have HG := Lib.hid h4
    have LR : Hid (layR A S s f (pre ++ [x]) = fun i => if o ≤ i ∧ i < o + 8 then s (q + (i - o)) else layR A S s f pre i) := Lib.hid (by
      rw [layR_snoc]
      funext i
      unfold putRow
      rw [hy, hq, ho])
    rw [hy] at xb
    rw [hy, ho]
    have HY := Lib.hid (And.intro hy (And.intro hq ho))
    clear src h1 h2 h3 h4 hy hq ho hyS hr
    gi_wp2_with (refine wpListIn_copy_arr rfl (.tmp 55) (.tmp 62) 24 24 rfl 5 Try.underlying24 size_byte b R o 8 _ _ (layR A S s f pre) (fun j => s (q + j)) ⟨sb, so + q, none⟩ rfl rfl HA.out (by omega) SRC.out ?_; intro V' hA' hG')
    have a1 : Arr V' .u8 b R (layR A S s f (pre ++ [x])) := by rw [LR.out]; exact hA'.out
    exact ⟨KeepsFrom.of_grownBy hG'.out (fun j e => by cases e; omega), kpA_grown hG'.out (by omega), a1, HI.out.grown hG'.out (fun e => hne (Option.some.inj e)), HB.out.kept hG'.out (fun e => by have := Option.some.inj e; omega), grown_trans HG.out hG'.out⟩
  case stop =>
    rintro Dd c pre V hD hSp h hK
    exact h.elim
  case done =>
    rintro Dd ys V hD rfl ⟨h1, h2, h3, h4⟩ hK
    have gp := grownBy_putObj' V Dd (.deferred none)
    have a1 : Arr (V.putObj Dd (.deferred none)) .u8 b R (layN A S s f 64) := by rw [← layR_all]; exact h1.grown gp (fun e => by have := Option.some.inj e; omega)
    have a2 := own_grown (β := Unit) (some b) (Nat.le_refl w.heap.size) () V _ (some Dd) h4 gp (fun r e => by cases e; exact ⟨by omega, _, hK, rfl⟩)
    have A1 := Lib.hid a1
    have A2 := Lib.hid a2
    clear h1 h2 h3 h4 gp a1 a2
    gi_wp2
    refine ⟨by simp, .inl ⟨_, _, rfl, run_takeDeferred hK, ?_⟩⟩
    exact ⟨_, results_tmp rfl _ _ _, rfl, A1.out, A2.out⟩
end Pa
end Go.Proofs.Ytkeempljogjceaa
