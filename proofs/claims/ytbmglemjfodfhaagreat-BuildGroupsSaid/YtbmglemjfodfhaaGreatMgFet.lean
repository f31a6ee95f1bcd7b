/- motion: Fetch, where all fits. | motion: Fetch of luma, where all fits. | motion: Fetch of chroma, where all fits. | motion: Fetch, whatever it is given. | paint: the document's answer: numbers cut; samples and residues put together. | paint's statements: 64 times a number; the chapter's examples. -/
import Derived.Test.YtbmglemjfodfhaaGreatMgMo4
import Derived.Test.YtbmglemjfodfhaaGreatMgPa1
import Derived.Test.YtbmglemjfodfhaaGreatMgPa5
import Derived.Test.YtbmglemjfodfhaaGreatMgRegSt
import Derived.Test.YtbmglemjfodfhaaGreatScopeIn
import Derived.BigQuiet
import Derived.BigRegion
import Derived.LoopIn
import Derived.LoopNIn
import Derived.Scope
import Derived.TacticsInMore
set_option linter.unusedVariables false
set_option linter.unusedSimpArgs false
namespace Go.Proofs.YtbmglemjfodfhaaGreat
open Go.RowKit Go.Shelf
attribute [local go_sem] Oper.semAt_some
namespace Mo
open Fr
def plV (n : Int) (b o c : Nat) : Array Value :=
  if n = 1 then #[.slice (some ⟨b, o, none⟩) 101376 c, .int .i64 352, .int .i64 288, .slice (some ⟨b, o + 101376, none⟩) 25344 (c - 101376), .int .i64 176, .int .i64 144, .slice (some ⟨b, o + 126720, none⟩) 25344 (c - 126720), .int .i64 176, .int .i64 144]
  else #[.slice (some ⟨b, o, none⟩) 25344 c, .int .i64 176, .int .i64 144, .slice (some ⟨b, o + 25344, none⟩) 6336 (c - 25344), .int .i64 88, .int .i64 72, .slice (some ⟨b, o + 31680, none⟩) 6336 (c - 31680), .int .i64 88, .int .i64 72]
theorem planes_any (n : Int) (hn : n = 0 ∨ n = 1) (N b o c : Nat) (hN : (N : Int) = zV n) (hc : N ≤ c) (w : World) : Calls Tryz.prog 88 #[.slice (some ⟨b, o, none⟩) N c, .int .i64 (wV n), .int .i64 (hV n)] w fun e w' => e = .returned (.agg (plV n b o c)) ∧ Below w.heap.size w w' := by
  rcases hn with rfl | rfl
  · obtain rfl : N = 38016 := by rw [show zV 0 = 38016 from rfl] at hN; omega
    exact planes_0 b o c hc w
  · obtain rfl : N = 152064 := by rw [show zV 1 = 152064 from rfl] at hN; omega
    exact planes_1 b o c hc w
theorem run_index_struct {P : Program} (w : World) {cs : Array Value} {m q : Nat} {ty e : TypeId} {fs : Array Field} (hu : P.underlying ty = some (.array m e)) (he : P.underlying e = some (.struct fs)) (hi : (P.info? e).map (·.size) = some q) (kk : IntKind) (j : Nat) (J : Int) (hJ : J = j) (hj : j < m) {ds : Array Value} (hds : cs.extract (j * q) (j * q + q) = ds) :
    (Instr.index ty (.agg cs) (.int kk J)).run P w = .ok (.agg ds) w := by
  subst hJ hds
  obtain ⟨i, hi, hs⟩ := info_size hi
  have hagg : (isAgg e).run P w = .ok true w := by
    unfold isAgg
    rw [Sem.run_bind, run_underlying he w]
    rfl
  have hz : (sizeOf e).run P w = .ok q w := by simp [sizeOf, typeInfo, hi, hs]
  have hp : (part e cs (j * q)).run P w = .ok (.agg (cs.extract (j * q) (j * q + q))) w := by
    unfold part
    rw [Sem.run_bind, hagg]
    simp [hz]
  simp only [Instr.index, asIntOf, Sem.run_bind, Sem.run_pure, Result.andThen_ok, run_underlying hu w]
  rw [if_pos (by omega)]
  simp only [Sem.run_bind, hz, Result.andThen_ok, Int.toNat_natCast, hp]
theorem plane_at (n k : Int) (hn : n = 0 ∨ n = 1) (hk : 1 ≤ k ∧ k ≤ 6) (b o c : Nat) : ∃ D m c' : Nat, (D : Int) = pD n k ∧ (m : Int) = pW n k * pH n k ∧ ∀ w, (Instr.index 120 (.agg (plV n b o c)) (.int .i64 (max 0 (k - 4)))).run Tryz.prog w = .ok (.agg #[.slice (some ⟨b, o + D, none⟩) m c', .int .i64 (pW n k), .int .i64 (pH n k)]) w := by
  have : k = 1 ∨ k = 2 ∨ k = 3 ∨ k = 4 ∨ k = 5 ∨ k = 6 := by omega
  rcases hn with rfl | rfl
  · rcases this with rfl | rfl | rfl | rfl | rfl | rfl
    iterate 4 exact ⟨0, 25344, c, rfl, rfl, fun w => run_index_struct (q := 3) w Tryz.underlying120 Tryz.underlying119 (by kernel_rfl) .i64 0 _ rfl (by omega) rfl⟩
    · exact ⟨25344, 6336, c - 25344, rfl, rfl, fun w => run_index_struct (q := 3) w Tryz.underlying120 Tryz.underlying119 (by kernel_rfl) .i64 1 _ rfl (by omega) rfl⟩
    · exact ⟨31680, 6336, c - 31680, rfl, rfl, fun w => run_index_struct (q := 3) w Tryz.underlying120 Tryz.underlying119 (by kernel_rfl) .i64 2 _ rfl (by omega) rfl⟩
  · rcases this with rfl | rfl | rfl | rfl | rfl | rfl
    iterate 4 exact ⟨0, 101376, c, rfl, rfl, fun w => run_index_struct (q := 3) w Tryz.underlying120 Tryz.underlying119 (by kernel_rfl) .i64 0 _ rfl (by omega) rfl⟩
    · exact ⟨101376, 25344, c - 101376, rfl, rfl, fun w => run_index_struct (q := 3) w Tryz.underlying120 Tryz.underlying119 (by kernel_rfl) .i64 1 _ rfl (by omega) rfl⟩
    · exact ⟨126720, 25344, c - 126720, rfl, rfl, fun w => run_index_struct (q := 3) w Tryz.underlying120 Tryz.underlying119 (by kernel_rfl) .i64 2 _ rfl (by omega) rfl⟩
theorem Boxed.froz2 {w : World} {B : Nat} {t : TypeId} {v : Value} (h : Boxed w B t v) : ∀ o1, (w.alloc o1).frozen? ⟨B, 0, none⟩ = false := fun o1 => (h.alloc o1).frozen
theorem Boxed.cell2 {w : World} {B : Nat} {t : TypeId} {v : Value} (h : Boxed w B t v) : ∀ o1, (w.alloc o1).cell? ⟨B, 0, none⟩ = some v := fun o1 => (h.alloc o1).cell
theorem boxes2 (w w' : World) {v1 v2 : Value} {t1 t2 : TypeId} (o1 o2 : Obj) (hB : Below ((w.alloc o1).alloc o2).heap.size ((w.alloc o1).alloc o2) w') (e1 : o1 = .cells #[v1] t1 (0, 0) := by rfl) (e2 : o2 = .cells #[v2] t2 (0, 0) := by rfl) :
    Boxed w' w.heap.size t1 v1 ∧ Boxed w' (w.heap.size + 1) t2 v2 := by
  subst e1 e2
  have b1 := ((Boxed.new w t1 v1).alloc (.cells #[v2] t2)).kept (grown_of_below hB none) (by simp)
  have b2 := (Boxed.new (w.alloc (.cells #[v1] t1)) t2 v2).kept (grown_of_below hB none) (by simp)
  rw [World.size_alloc] at b2
  exact ⟨b1, b2⟩
def st3 (w : World) (p q : Addr) (u v : Value) : Nat → World
  | 0 => w.drew
  | 1 => w.drew.setCell p u
  | _ => (w.drew.setCell p u).setCell q v
theorem st3_q {w : World} {p q : Addr} {u v x : Value} (h : w.cell? q = some x) (hp : p ≠ q) : ∀ t, t ≤ 1 → (st3 w p q u v t).cell? q = some x
  | 0, _ => h
  | 1, _ => (World.cell?_setCell_other _ _ _ _ hp).trans h
  | _ + 2, h => absurd h (by omega)
theorem st3_fq {w : World} {p q : Addr} {u v : Value} (h : w.frozen? q = false) : ∀ t, (st3 w p q u v t).frozen? q = false
  | 0 => h
  | 1 => (World.frozen?_setCell _ _ _ _).trans h
  | _ + 2 => (World.frozen?_setCell _ _ _ _).trans ((World.frozen?_setCell _ _ _ _).trans h)
theorem ownFrom_grown {β : Type} {B : Nat} {w : World} (row : Option Nat) (hB : w.heap.size ≤ B) : OwnFrom B (fun (_ : β) W => w.grownBy W row) :=
  fun _ _ _ _ hs hw hr => ⟨hw.os.trans hs.os, hw.tape.trans hs.tape, hw.output.trans hs.output, Nat.le_trans hs.size hw.size,
    fun i hi hne => (hw.block i (Nat.lt_of_lt_of_le hi hs.size) (fun e => by have := (hr i e.symm).1; omega)).trans (hs.block i hi hne)⟩
def pixS (f : Nat → Int) (D px py : Nat) (W : Int) (v u : Nat) : Int := f (D + (((py + v : Nat) : Int) * W + ((px + u : Nat) : Int)).toNat)
def pixRow (f : Nat → Int) (D px py : Nat) (W : Int) (v k : Nat) : List Value := (List.range k).map fun u => .int .u8 (pixS f D px py W v u)
def pixRows (f : Nat → Int) (D px py : Nat) (W : Int) (pre : List (Fin 8)) : List Value := pre.flatMap fun v => pixRow f D px py W v.val 8
theorem pix {f : Nat → Int} {D px py m : Nat} {W H : Int} (hm : (m : Int) = W * H) (hW : 0 ≤ W) (hx : (px : Int) + 8 ≤ W) (hy : (py : Int) + 8 ≤ H) :
    ∀ u v : Nat, u < 8 → v < 8 → ∃ p : Nat, ((py + v : Nat) : Int) * W + ((px + u : Nat) : Int) = (p : Int) ∧ p < m ∧ pixS f D px py W v u = f (D + p) := by
  intro u v hu hv
  have h1 : ((py + v : Nat) : Int) * W ≤ (H - 1) * W := Int.mul_le_mul_of_nonneg_right (by omega) hW
  have h2 : (H - 1) * W = W * H - W := by rw [Int.sub_mul, Int.mul_comm H W]; omega
  have h3 : 0 ≤ ((py + v : Nat) : Int) * W := Int.mul_nonneg (by omega) hW
  refine ⟨(((py + v : Nat) : Int) * W + ((px + u : Nat) : Int)).toNat, by omega, by omega, rfl⟩
theorem cells3 {w : World} {g : Nat} {x y z : Value} {t : TypeId} (h : w.heap[g]? = some (.cells #[x, y, z] t (0, 0))) : w.cell? ⟨g, 0, none⟩ = some x ∧ w.cell? ⟨g, 1, none⟩ = some y ∧ w.cell? ⟨g, 2, none⟩ = some z := by
  simp [World.cell?, h]
theorem ints_grown {W W' : World} {b o n g : Nat} {f : Nat → Int} (h : Ints W .u8 b o n f) (hg : W.grownBy W' (some g)) (hb : b < W.heap.size ∧ b ≠ g) : Ints W' .u8 b o n f :=
  fun i hi => (World.cell?_of_block (a := ⟨b, o + i, none⟩) (hg.block b hb.1 (fun e => hb.2 (Option.some.inj e)))).trans (h i hi)
theorem grown_more {W A B : World} {g : Nat} {row : Option Nat} (h : W.grownBy A (some g)) (k : A.grownBy B row) (hr : ∀ r, row = some r → W.heap.size ≤ r ∨ r = g) : W.grownBy B (some g) :=
  ⟨k.os.trans h.os, k.tape.trans h.tape, k.output.trans h.output, Nat.le_trans h.size k.size, fun i hi hne => (k.block i (Nat.lt_of_lt_of_le hi h.size) (fun e => by
    rcases hr i e.symm with h1 | h1
    · omega
    · exact hne (by rw [h1]))).trans (h.block i hi hne)⟩
theorem own_base {w : World} {base e size n : Nat} {v : Value} {xs : List Value} (h : w.ownsRow base e size v n xs) : w.ownsRow 0 e size v n xs :=
  ⟨h.1, h.2.imp id (fun ⟨g, cap, cur, h1, _, h3⟩ => ⟨g, cap, cur, h1, Nat.zero_le _, h3⟩)⟩
theorem own_ge {w : World} {base e size n : Nat} {v : Value} {xs : List Value} (h : w.ownsRow base e size v n xs) : ∀ r, v.ownBlock = some r → base ≤ r := by
  intro r hr
  rcases h.2 with ⟨rfl, _⟩ | ⟨g, cap, cur, rfl, h2, _⟩
  · cases hr
  · cases hr; exact h2
theorem own_past {w w' : World} {base e size n : Nat} {v : Value} {xs : List Value} (h : w.ownsRow base e size v n xs) (hB : Below w.heap.size w w') : w'.ownsRow base e size v n xs :=
  h.kept (grown_of_below hB none) (by cases hv : v.ownBlock <;> simp)
theorem pixRows_snoc (f : Nat → Int) (D px py : Nat) (W : Int) (pre : List (Fin 8)) (v : Fin 8) : pixRows f D px py W (pre ++ [v]) = pixRows f D px py W pre ++ pixRow f D px py W v.val 8 := by
  simp [pixRows]
theorem pixRow_succ (f : Nat → Int) (D px py : Nat) (W : Int) (v u : Nat) : pixRow f D px py W v (u + 1) = pixRow f D px py W v u ++ [.int .u8 (pixS f D px py W v u)] := by
  unfold pixRow; rw [List.range_succ, List.map_append]; rfl
theorem own_low {w : World} {B base e size n : Nat} {v : Value} {xs : List Value} (hb : B ≤ base) (h : w.ownsRow base e size v n xs) : w.ownsRow B e size v n xs :=
  ⟨h.1, h.2.imp id (fun ⟨g, cap, cur, h1, h2, h3⟩ => ⟨g, cap, cur, h1, Nat.le_trans hb h2, h3⟩)⟩
theorem pix_all (f : Nat → Int) (D px py : Nat) (W : Int) : pixRows f D px py W (List.finRange 8) = (List.range 64).map fun i => .int .u8 (pixS f D px py W (i / 8) (i % 8)) := by kernel_rfl
theorem pix_fet {f : Nat → Int} {D px py : Nat} {n g a k x y W : Int} (hD : (D : Int) = pD n k) (hW : pW n k = W) (hX : pX n g a k x = px) (hY : pY n g a k y = py) (h0 : 0 ≤ W) (i : Nat) :
    pixS f D px py W (i / 8) (i % 8) = fetF f n g a k x y i := by
  unfold pixS fetF
  rw [← hD, hW, hX, hY, ← Int.natCast_add]
  have h1 : 0 ≤ ((py + i / 8 : Nat) : Int) * W := Int.mul_nonneg (by omega) h0
  congr 1
  push_cast at *
  omega
theorem info_u8 : (Tryz.prog.info? 5).map (fun i => (i.zero, i.size, i.bytes)) = some (some (.int .u8 0), 1, 1) := by kernel_rfl
end Mo
end Go.Proofs.YtbmglemjfodfhaaGreat
namespace Go.Proofs.YtbmglemjfodfhaaGreat
open Go.RowKit Go.Shelf
attribute [local go_sem] Oper.semAt_some
namespace Mo
open Fr
set_option maxRecDepth 100000 in
set_option maxHeartbeats 4000000 in
theorem fetch_luma (b o N c : Nat) (f : Nat → Int) (n g a k x y : Int) (w : World) (h : Ints w .u8 b o N f) (hb : b < w.heap.size) (hc : N ≤ c) (hcm : c ≤ maxLen) (hN : (N : Int) = zV n) (hk : 1 ≤ k ∧ k ≤ 4) (hv : vE n g a x y = 0) (hx : (Lit.int .i64 x).wf = true) (hy : (Lit.int .i64 y).wf = true) :
    Calls Tryz.prog 48 #[.slice (some ⟨b, o, none⟩) N c, .agg #[.int .i64 n, .int .i64 g, .int .i64 a], .int .i64 k, .int .i64 x, .int .i64 y] w fun e w' => ∃ v, e = .returned (.tuple #[v, .int .i64 0]) ∧ Res .u8 w.heap.size w' v 64 (fetF f n g a k x y) ∧ Below w.heap.size w w' := by
  obtain ⟨hce, hxy, hX0, hX1, hY0, hY1⟩ := vE_zero hv
  have hn := (cE_cases n g a hce).1
  have bX := cX_bd n g a hce
  have bY := cY_bd n g a hce
  have bW := wh_bd n
  have pin := pXY_in hv (k := k) (by omega)
  have pdi := pD_in hn (k := k) (by omega)
  obtain ⟨D, m, c', hD, hm, ix⟩ := plane_at n k hn (by omega) b o c
  obtain ⟨X, eX⟩ : ∃ X, cX n g a = X := ⟨_, rfl⟩
  obtain ⟨Y, eY⟩ : ∃ Y, cY n g a = Y := ⟨_, rfl⟩
  obtain ⟨W, eW⟩ : ∃ W, pW n k = W := ⟨_, rfl⟩
  obtain ⟨H, eH⟩ : ∃ H, pH n k = H := ⟨_, rfl⟩
  rw [show max 0 (k - 4) = 0 by omega, eW, eH] at ix
  have ePX : pX n g a k x = X + (k - 1) % 2 * 8 + x := by unfold pX; rw [if_pos hk.2, eX]
  have ePY : pY n g a k y = Y + (k - 1) / 2 * 8 + y := by unfold pY; rw [if_pos hk.2, eY]
  rw [eW, eH] at pin pdi
  rw [eX] at bX
  rw [eY] at bY
  have HC := Lib.hid hce
  have HV := Lib.hid hv
  have HN := Lib.hid hn
  have HZ := Lib.hid hN
  have HX := Lib.hid eX
  have HY := Lib.hid eY
  have IN := Lib.hid h
  have mx : ∀ w', (Builtin.max_ #[3, 3] 3 #[.int .i64 0, .int .i64 (k - 4)]).run Tryz.prog w' = .ok (.int .i64 0) w' := fun w' => by rw [Lib.run_max_ints, show max 0 (k - 4) = 0 by omega]
  have t1 : (((N : Nat) : Int) != ((N : Nat) : Int)) = false := by simp
  have Xb : 0 ≤ X ∧ X ≤ 400 := by omega
  have Yb : 0 ≤ Y ∧ Y ≤ 400 := by omega
  have HIN := Lib.hid pin
  have HDI := Lib.hid pdi
  have HM := Lib.hid hm
  have HD := Lib.hid hD
  have HW := Lib.hid eW
  have HH := Lib.hid eH
  have HPX := Lib.hid ePX
  have HPY := Lib.hid ePY
  have HNc := Lib.hid hc
  have HXY := Lib.hid hxy
  have Hb := Lib.hid hb
  clear hce hv h hX0 hX1 hY0 hY1 bX bY bW pin pdi hm hD eX eY eW eH ePX ePY hN hn hc hcm hxy hb
  refine (callsIn_wide (n := 12)).1 ?_
  refine callsIn_of_wp_marks Tryz.func48 rfl trivial ?_ rfl
  simp only [Tryz.ntmps48, List.size_toArray, List.length_cons, List.length_nil, Nat.reduceAdd, Nat.reduceSub, Array.replicate_succ, Array.replicate_zero, List.push_toArray, List.append_toArray, List.nil_append, List.cons_append]
  refine wpIn_wide.2 ?_
  go_wp2_with fail
  refine wp_scope_straight ?_
  go_wp2_with (first
    | (go_at_call 86; refine (Corner_any n g a _).mono ?_; rintro e w1 ⟨rfl, hB⟩; rw [HC.out, HX.out, HY.out]; have h6 := heap_a3 w w1 _ _ _ hB; have c60 := cell_a2 h6.1 0 rfl; have c61 := cell_a2 h6.1 1 rfl; have c62 := cell_a2 h6.1 2 rfl; have c8 := cell_a2 h6.2.1 0 rfl; have c9 := cell_a2 h6.2.2 0 rfl; have B8 := Lib.hid h6.2.1; have B9 := Lib.hid h6.2.2; clear h6; have HB := Lib.hid (chain ((((Below.refl w.heap.size w).alloc (Nat.le_refl _) _).alloc (by simp) _).alloc (by simp; omega) _) hB); have z1 := hB.size; simp at z1; have Z1 := Lib.hid z1; clear hB z1)
    | (go_at_call 73; refine (Size_any n _).mono ?_; rintro e w2 ⟨rfl, rfl⟩; rw [← HZ.out])
    | (go_at_call 45; refine (Fits_any n g a x y _ hx hy).mono ?_; rintro e w3 ⟨rfl, hB⟩; rw [HV.out]; have h12 := boxes2 w1 w3 _ _ hB; have z3 := hB.size; simp at z3; have Z3 := Lib.hid z3; clear z3; have B8 : Hid (Boxed w3 (w.heap.size + 1) 3 (.int .i64 x)) := Lib.hid (((Boxed.alloc (Boxed.alloc B8.out _) _)).kept (grown_of_below hB none) (by simp)); have B9 : Hid (Boxed w3 (w.heap.size + 1 + 1) 3 (.int .i64 y)) := Lib.hid (((Boxed.alloc (Boxed.alloc B9.out _) _)).kept (grown_of_below hB none) (by simp)); have B12 := Lib.hid h12.1; have B13 := Lib.hid h12.2; have HB := Lib.hid (chain ((HB.out.alloc HB.out.size _).alloc (by have := HB.out.size; simp; omega) _) hB); clear hB h12 c60 c61 c62 c8 c9)
    | (go_at_call 88; refine (planes_any n HN.out N b o c HZ.out HNc.out _).mono ?_; rintro e w4 ⟨rfl, hB⟩; have Z4 := Lib.hid hB.size; have n12 : ¬ w1.heap.size = w4.heap.size := (by have := Z4.out; have := Z3.out; omega); have n13 : ¬ w1.heap.size + 1 = w4.heap.size := (by have := Z4.out; have := Z3.out; omega); have B8 := Lib.hid (B8.out.kept (grown_of_below hB none) (by simp)); have B9 := Lib.hid (B9.out.kept (grown_of_below hB none) (by simp)); have B12 := Lib.hid (B12.out.kept (grown_of_below hB none) (by simp)); have B13 := Lib.hid (B13.out.kept (grown_of_below hB none) (by simp)); have HB := Lib.hid (chain HB.out hB); have d12 := Boxed.cell2 B12.out; have d13 := Boxed.cell2 B13.out; have f12 := Boxed.froz2 B12.out; have f13 := Boxed.froz2 B13.out; clear hB))
  obtain ⟨W5, hW5⟩ : ∃ W5, w4.alloc (.cells #[.slice (some ⟨b, o + D, none⟩) m c', .int .i64 W, .int .i64 H] 119) = W5 := ⟨_, rfl⟩
  have c12 := d12 (.cells #[.slice (some ⟨b, o + D, none⟩) m c', .int .i64 W, .int .i64 H] 119)
  have c13 := d13 (.cells #[.slice (some ⟨b, o + D, none⟩) m c', .int .i64 W, .int .i64 H] 119)
  have z12 := f12 (.cells #[.slice (some ⟨b, o + D, none⟩) m c', .int .i64 W, .int .i64 H] 119)
  have z13 := f13 (.cells #[.slice (some ⟨b, o + D, none⟩) m c', .int .i64 W, .int .i64 H] 119)
  have B8 := Lib.hid (B8.out.alloc (.cells #[.slice (some ⟨b, o + D, none⟩) m c', .int .i64 W, .int .i64 H] 119))
  have B9 := Lib.hid (B9.out.alloc (.cells #[.slice (some ⟨b, o + D, none⟩) m c', .int .i64 W, .int .i64 H] 119))
  have B12 := Lib.hid (B12.out.alloc (.cells #[.slice (some ⟨b, o + D, none⟩) m c', .int .i64 W, .int .i64 H] 119))
  have B13 := Lib.hid (B13.out.alloc (.cells #[.slice (some ⟨b, o + D, none⟩) m c', .int .i64 W, .int .i64 H] 119))
  have B20 := Lib.hid (heap_alloc_new w4 (.cells #[.slice (some ⟨b, o + D, none⟩) m c', .int .i64 W, .int .i64 H] 119))
  have HB := Lib.hid (HB.out.alloc HB.out.size (.cells #[.slice (some ⟨b, o + D, none⟩) m c', .int .i64 W, .int .i64 H] 119))
  have hz : W5.heap.size = w4.heap.size + 1 := by rw [← hW5]; simp
  rw [hW5] at c12 c13 z12 z13 B8 B9 B12 B13 B20 HB ⊢
  have ne : (⟨w1.heap.size, 0, none⟩ : Addr) ≠ ⟨w1.heap.size + 1, 0, none⟩ := by simp
  have HZ5 := Lib.hid hz
  clear hW5 d12 d13 f12 f13 n12 n13 hz
  refine (wpIn_wide (n := 12)).1 ?_
  refine regionIn_stage 12 [0, 0, 0, 0, 0, 0, 1, 1, 1, 1, 1, 1] (st3 W5 ⟨w1.heap.size, 0, none⟩ ⟨w1.heap.size + 1, 0, none⟩ (.int .i64 (X + (k - 1) % 2 * 8)) (.int .i64 (Y + (k - 1) / 2 * 8))) (by kernel_rfl) (by kernel_rfl) rfl ?_
  simp only [List.take_succ_cons, List.take_zero, List.drop_succ_cons, List.drop_zero]
  have g13 := st3_q (u := .int .i64 (X + (k - 1) % 2 * 8)) (v := .int .i64 (Y + (k - 1) / 2 * 8)) c13 ne
  have g12 : ∀ t, t ≤ 0 → (st3 W5 ⟨w1.heap.size, 0, none⟩ ⟨w1.heap.size + 1, 0, none⟩ (.int .i64 (X + (k - 1) % 2 * 8)) (.int .i64 (Y + (k - 1) / 2 * 8)) t).cell? ⟨w1.heap.size, 0, none⟩ = some (.int .i64 X) := fun t ht => by obtain rfl : t = 0 := (by omega); exact c12
  have r1 : (k - 1).tmod 2 = (k - 1) % 2 := Int.tmod_eq_emod_of_nonneg (by omega)
  have r2 : (k - 1).tdiv 2 = (k - 1) / 2 := Int.tdiv_eq_ediv_of_nonneg (by omega)
  refine stage_step (.int .i64 X) rfl (fun t ht => (by have := g12 t ht; go_simp)) ?_
  simp only [Act.put, List.setIfInBounds_toArray, List.set_cons_zero, List.set_cons_succ]
  refine stage_step (.int .i64 k) rfl (fun t ht => (by go_simp; try exact IntWalk.i64_in _ (by omega))) ?_
  simp only [Act.put, List.setIfInBounds_toArray, List.set_cons_zero, List.set_cons_succ]
  refine stage_step (.int .i64 (k - 1)) rfl (fun t ht => (by go_simp; try exact IntWalk.i64_in _ (by omega))) ?_
  simp only [Act.put, List.setIfInBounds_toArray, List.set_cons_zero, List.set_cons_succ]
  refine stage_step (.int .i64 ((k - 1) % 2)) rfl (fun t ht => (by go_simp; try exact IntWalk.i64_in _ (by omega))) ?_
  simp only [Act.put, List.setIfInBounds_toArray, List.set_cons_zero, List.set_cons_succ]
  refine stage_step (.int .i64 ((k - 1) % 2 * 8)) rfl (fun t ht => (by go_simp; try exact IntWalk.i64_in _ (by omega))) ?_
  simp only [Act.put, List.setIfInBounds_toArray, List.set_cons_zero, List.set_cons_succ]
  refine stage_step (.int .i64 (X + (k - 1) % 2 * 8)) rfl (fun t ht => (by go_simp; try exact IntWalk.i64_in _ (by omega))) ?_
  simp only [Act.put, List.setIfInBounds_toArray, List.set_cons_zero, List.set_cons_succ]
  refine stage_step (.int .i64 Y) rfl (fun t ht => (by have := g13 t ht; go_simp)) ?_
  simp only [Act.put, List.setIfInBounds_toArray, List.set_cons_zero, List.set_cons_succ]
  refine stage_step (.int .i64 k) rfl (fun t ht => (by go_simp; try exact IntWalk.i64_in _ (by omega))) ?_
  simp only [Act.put, List.setIfInBounds_toArray, List.set_cons_zero, List.set_cons_succ]
  refine stage_step (.int .i64 (k - 1)) rfl (fun t ht => (by go_simp; try exact IntWalk.i64_in _ (by omega))) ?_
  simp only [Act.put, List.setIfInBounds_toArray, List.set_cons_zero, List.set_cons_succ]
  refine stage_step (.int .i64 ((k - 1) / 2)) rfl (fun t ht => (by go_simp; try exact IntWalk.i64_in _ (by omega))) ?_
  simp only [Act.put, List.setIfInBounds_toArray, List.set_cons_zero, List.set_cons_succ]
  refine stage_step (.int .i64 ((k - 1) / 2 * 8)) rfl (fun t ht => (by go_simp; try exact IntWalk.i64_in _ (by omega))) ?_
  simp only [Act.put, List.setIfInBounds_toArray, List.set_cons_zero, List.set_cons_succ]
  refine stage_step (.int .i64 (Y + (k - 1) / 2 * 8)) rfl (fun t ht => (by go_simp; try exact IntWalk.i64_in _ (by omega))) ?_
  simp only [Act.put, List.setIfInBounds_toArray, List.set_cons_zero, List.set_cons_succ]
  refine tail_step rfl ⟨fun _ _ => trivial, ?_⟩
  have q12 := g12 0 (Nat.le_refl 0)
  have y12 : (st3 W5 ⟨w1.heap.size, 0, none⟩ ⟨w1.heap.size + 1, 0, none⟩ (.int .i64 (X + (k - 1) % 2 * 8)) (.int .i64 (Y + (k - 1) / 2 * 8)) 0).frozen? ⟨w1.heap.size, 0, none⟩ = false := z12
  go_simp
  refine ⟨rfl, ?_⟩
  refine tail_step rfl ⟨fun _ _ => trivial, ?_⟩
  have q13 := g13 1 (Nat.le_refl 1)
  have y13 := st3_fq (w := W5) (p := ⟨w1.heap.size, 0, none⟩) (u := .int .i64 (X + (k - 1) % 2 * 8)) (v := .int .i64 (Y + (k - 1) / 2 * 8)) z13 1
  go_simp
  refine ⟨rfl, ?_⟩
  obtain ⟨W6, hW6⟩ : ∃ W6, (W5.drew.setCell ⟨w1.heap.size, 0, none⟩ (.int .i64 (X + (k - 1) % 2 * 8))).setCell ⟨w1.heap.size + 1, 0, none⟩ (.int .i64 (Y + (k - 1) / 2 * 8)) = W6 := ⟨_, rfl⟩
  have z1 := Z1.out
  have z3 := Z3.out
  have z4 := Z4.out
  have hb8 : Boxed W6 (w.heap.size + 1) 3 (.int .i64 x) := by rw [← hW6]; exact Boxed.other (Boxed.other (W := W5.drew) B8.out (by omega) _) (by omega) _
  have hb9 : Boxed W6 (w.heap.size + 1 + 1) 3 (.int .i64 y) := by rw [← hW6]; exact Boxed.other (Boxed.other (W := W5.drew) B9.out (by omega) _) (by omega) _
  have hb12 : Boxed W6 w1.heap.size 3 (.int .i64 (X + (k - 1) % 2 * 8)) := by rw [← hW6]; exact Boxed.other (Boxed.set (W := W5.drew) (.int .i64 (X + (k - 1) % 2 * 8)) B12.out) (by omega) _
  have hb13 : Boxed W6 (w1.heap.size + 1) 3 (.int .i64 (Y + (k - 1) / 2 * 8)) := by rw [← hW6]; exact Boxed.set (.int .i64 (Y + (k - 1) / 2 * 8)) (Boxed.other (W := W5.drew) B13.out (by omega) _)
  have hb20 : W6.heap[w4.heap.size]? = some (.cells #[.slice (some ⟨b, o + D, none⟩) m c', .int .i64 W, .int .i64 H] 119 (0, 0)) := by
    rw [← hW6]
    exact (Below.heap_setCell _ _ _ _ (by simp; omega)).trans ((Below.heap_setCell W5.drew _ _ _ (by simp; omega)).trans B20.out)
  have hbB : Below w.heap.size w W6 := by rw [← hW6]; exact (HB.out.drew.setCell (p := ⟨w1.heap.size, 0, none⟩) (by simp; omega) _).setCell (p := ⟨w1.heap.size + 1, 0, none⟩) (by simp; omega) _
  have hz6 : W6.heap.size = w4.heap.size + 1 := by rw [← hW6]; simp [World.setCell]; exact HZ5.out
  show onlyN _ Exit.normal _ _
  simp only [onlyN, st3]
  rw [hW6]
  clear hW6 g12 g13 q12 q13 y12 y13 c12 c13 z12 z13 B8 B9 B12 B13 B20 HB HZ5
  have B8 := Lib.hid hb8
  have B9 := Lib.hid hb9
  have B12 := Lib.hid hb12
  have B13 := Lib.hid hb13
  have B20 := Lib.hid hb20
  have HB := Lib.hid hbB
  clear hb8 hb9 hb12 hb13 hb20 hbB
  have HIN' := HIN.out
  rw [HPX.out, HPY.out] at HIN'
  obtain ⟨A12, hA12⟩ : ∃ A, X + (k - 1) % 2 * 8 = A := ⟨_, rfl⟩
  obtain ⟨A13, hA13⟩ : ∃ A, Y + (k - 1) / 2 * 8 = A := ⟨_, rfl⟩
  have bA12 : 0 ≤ A12 ∧ A12 ≤ 500 := by omega
  have bA13 : 0 ≤ A13 ∧ A13 ≤ 500 := by omega
  rw [hA12] at B12 HPX HIN' ⊢
  rw [hA13] at B13 HPY HIN' ⊢
  obtain ⟨px, hpx⟩ : ∃ px : Nat, A12 + x = (px : Int) := ⟨(A12 + x).toNat, by omega⟩
  obtain ⟨py, hpy⟩ : ∃ py : Nat, A13 + y = (py : Int) := ⟨(A13 + y).toNat, by omega⟩
  rw [hpx, hpy] at HIN'
  obtain ⟨hi1, hi2, hi3, hi4⟩ := HIN'
  obtain ⟨hd1, hd2, hd3, hd4, hd5, hd6⟩ := HDI.out
  have mWH : (m : Int) = W * H := by rw [HM.out, HW.out, HH.out]
  have hDN : D + m ≤ N := by have h1 := HD.out; have h2 := HZ.out; rw [← mWH] at hd2; omega
  have PIX := Lib.hid (pix (f := f) (D := D) (px := px) (py := py) (m := m) (W := W) (H := H) mWH hd3 (by omega) (by omega))
  have INP : Hid (∀ u v : Nat, u < 8 → v < 8 → inP W H ((px : Int) + (u : Int)) ((py : Int) + (v : Int)) = true) := Lib.hid (fun u v hu hv => by unfold inP; rw [decide_eq_true_eq]; omega)
  have hW0 : 0 ≤ W ∧ W ≤ 1000 := by omega
  have bpx : (px : Int) ≤ 400 ∧ (py : Int) ≤ 400 := by omega
  have FF : Hid (∀ i, i < 64 → pixS f D px py W (i / 8) (i % 8) = fetF f n g a k x y i) := Lib.hid (fun i hi => pix_fet HD.out HW.out (HPX.out.trans hpx) (HPY.out.trans hpy) hd3 i)
  clear hi1 hi2 hi3 hi4 hd1 hd2 hd3 hd4 hd5 hd6 mWH HIN HDI r1 r2 ne
  have SZ : W6.heap.size = w4.heap.size + 1 := hz6
  go_wp2_with fail
  refine wp_label ?_
  go_wp2_with (go_at_call 90; refine (callsIn_wide.1 (rows_in Fence.wide 11 trivial rfl _)).mono ?_; rintro e w5 ⟨rfl, rfl⟩)
  have B8 := Lib.hid (B8.out.alloc (.cells #[.slice none 0 0] 30))
  have B9 := Lib.hid (B9.out.alloc (.cells #[.slice none 0 0] 30))
  have B12 := Lib.hid (B12.out.alloc (.cells #[.slice none 0 0] 30))
  have B13 := Lib.hid (B13.out.alloc (.cells #[.slice none 0 0] 30))
  have B20 := Lib.hid ((Below.heap_alloc W6 (.cells #[.slice none 0 0] 30) w4.heap.size (by omega)).trans B20.out)
  have B21 := Lib.hid (Boxed.new W6 30 (.slice none 0 0))
  have HB := Lib.hid (HB.out.alloc HB.out.size (.cells #[.slice none 0 0] 30))
  have INS : Hid (Ints w .u8 b (o + D) m (fun i => f (D + i))) := Lib.hid (fun i hi => by have := IN.out (D + i) (by omega); rw [Nat.add_assoc]; exact this)
  obtain ⟨W0, hW0e⟩ : ∃ W0, W6.alloc (.cells #[.slice none 0 0] 30) = W0 := ⟨_, rfl⟩
  have hz0 : W0.heap.size = w4.heap.size + 2 := by rw [← hW0e]; simp; omega
  rw [hW0e] at B8 B9 B12 B13 B20 B21 HB ⊢
  rw [SZ] at B21
  clear hW0e hz6 IN SZ
  have INS := Lib.hid (INS.out.below HB.out Hb.out)
  obtain ⟨g21, hg21⟩ : ∃ g, w4.heap.size + 1 = g := ⟨_, rfl⟩
  rw [hg21] at B21 ⊢
  refine (wpIn_wide (n := 12)).1 ?_
  refine wpIn_rangeFunc_ownH (F := Fence.wide) rfl (by omega) (gf := 133) (lb := #[]) rfl trivial (enters_of Tryz.func133 (by kernel_rfl) rfl)
    (rows_stops Fence.wide 11 trivial rfl (by omega) W0) kp0_t kp0_b (Below.refl _ _) (fun _ => rfl)
    (fun pre W1 => (∃ v, Boxed W1 g21 30 v ∧ W1.ownsRow W0.heap.size 5 1 v (8 * pre.length) (pixRows f D px py W pre) ∧ True) ∧ W0.grownBy W1 (some g21))
    (fun _ _ _ => False)
    (OwnFrom.and (Own.from (holdsRow_own W0.heap.size g21 30 5 1 (fun pre : List (Fin 8) => 8 * pre.length) (fun pre => pixRows f D px py W pre) (fun _ _ => True)) _) (ownFrom_grown _ (Nat.le_refl _)))
    (fun _ _ _ _ _ hs _ _ => hs)
    ⟨⟨_, B21.out, World.ownsRow_nil _ _ _ _, trivial⟩, World.grownBy.refl _ _⟩
    (fun v a' _ => a' = { tmps := #[Value.slice (some { block := b, off := o }) N c, Value.agg #[Value.int IntKind.i64 n, Value.int IntKind.i64 g, Value.int IntKind.i64 a], Value.int IntKind.i64 k, Value.int IntKind.i64 x, Value.int IntKind.i64 y, undef, Value.pointer (some { block := w.heap.size, off := 0 }), undef, Value.pointer (some { block := w.heap.size + 1, off := 0 }), Value.pointer (some { block := w.heap.size + 1 + 1, off := 0 }), Value.slice none 0 0, Value.int IntKind.i64 0, Value.pointer (some { block := w1.heap.size, off := 0 }), Value.pointer (some { block := w1.heap.size + 1, off := 0 }), Value.int IntKind.i64 0, Value.int IntKind.i64 (wV n), Value.int IntKind.i64 (hV n), Value.int IntKind.i64 ↑N, Value.int IntKind.i64 (fE n), Value.int IntKind.i64 0, Value.pointer (some { block := w4.heap.size, off := 0 }), Value.pointer (some { block := g21, off := 0 }), .int .i64 ((v : Nat) : Int), undef, Value.tuple #[Value.int IntKind.i64 X, Value.int IntKind.i64 Y, Value.int IntKind.i64 0], Value.pointer (some { block := w.heap.size, off := 0 }), Value.int IntKind.i64 n, Value.pointer (some { block := w.heap.size, off := 1 }), Value.int IntKind.i64 g, Value.pointer (some { block := w.heap.size, off := 2 }), Value.int IntKind.i64 a, Value.tuple #[Value.int IntKind.i64 X, Value.int IntKind.i64 Y, Value.int IntKind.i64 0], Value.int IntKind.i64 X, Value.int IntKind.i64 Y, Value.int IntKind.i64 0, Value.int IntKind.i64 0, Value.bool false, undef, Value.tuple #[Value.int IntKind.i64 (wV n), Value.int IntKind.i64 (hV n), Value.int IntKind.i64 ↑N, Value.int IntKind.i64 (fE n)], Value.pointer (some { block := w.heap.size, off := 0 }), Value.int IntKind.i64 n, Value.tuple #[Value.int IntKind.i64 (wV n), Value.int IntKind.i64 (hV n), Value.int IntKind.i64 ↑N, Value.int IntKind.i64 (fE n)], Value.int IntKind.i64 (wV n), Value.int IntKind.i64 (hV n), Value.int IntKind.i64 ↑N, Value.int IntKind.i64 (fE n), Value.bool false, Value.slice (some { block := b, off := o }) N c, Value.int IntKind.i64 ↑N, Value.int IntKind.i64 ↑N, Value.bool false, Value.bool (decide (k < 1) || decide (6 < k)), Value.int IntKind.i64 k, Value.bool (decide (k < 1)), Value.bool (decide (k < 1)), Value.int IntKind.i64 k, Value.bool (decide (6 < k)), Value.bool (decide (k < 1) || decide (6 < k)), Value.agg #[Value.int IntKind.i64 n, Value.int IntKind.i64 g, Value.int IntKind.i64 a], Value.int IntKind.i64 x, Value.int IntKind.i64 y, Value.int IntKind.i64 0, Value.int IntKind.i64 0, Value.bool false, undef, Value.slice (some { block := b, off := o }) N c, Value.int IntKind.i64 (wV n), Value.int IntKind.i64 (hV n), Value.agg (plV n b o c), Value.int IntKind.i64 k, Value.int IntKind.i64 (k - 4), Value.int IntKind.i64 0, Value.agg #[Value.slice (some { block := b, off := o + D }) m c', Value.int IntKind.i64 W, Value.int IntKind.i64 H], Value.int IntKind.i64 k, Value.bool (decide (4 < k)), undef, undef, undef, undef, undef, undef, undef, undef, Value.int IntKind.i64 X, Value.int IntKind.i64 k, Value.int IntKind.i64 (k - 1), Value.int IntKind.i64 ((k - 1) % 2), Value.int IntKind.i64 ((k - 1) % 2 * 8), Value.int IntKind.i64 (A12), Value.int IntKind.i64 Y, Value.int IntKind.i64 k, Value.int IntKind.i64 (k - 1), Value.int IntKind.i64 ((k - 1) / 2), Value.int IntKind.i64 ((k - 1) / 2 * 8), Value.int IntKind.i64 (A13), Value.func (Fn.func 133) #[] #[], .int .i64 ((v : Nat) : Int), undef, undef, undef, undef, undef, undef, undef, undef, undef, undef, undef, undef, undef, undef, undef, undef, undef, undef, undef, undef, undef, undef, undef, undef, undef, undef, undef, undef, undef, undef, undef, undef, undef], defers := [] })
    (fun _ _ _ _ _ _ hs _ _ => hs)
    ?assign ?body ?done ?stop
  case assign =>
    rintro l pre v W1 K h hK
    gi_wp2
    exact hK _ _ (KeepsFrom.refl _ _) trivial h rfl
  case body =>
    rintro l pre v a' W1 hl ⟨r, hr⟩ ⟨⟨v1, hv, hrow, _⟩, hG⟩ rfl hlt
    have bx8 := fun (W2 : World) (h : W0.grownBy W2 (some g21)) => (B8.out.kept h (by simp; omega)).cell
    have bx9 := fun (W2 : World) (h : W0.grownBy W2 (some g21)) => (B9.out.kept h (by simp; omega)).cell
    have bx12 := fun (W2 : World) (h : W0.grownBy W2 (some g21)) => (B12.out.kept h (by simp; omega)).cell
    have bx13 := fun (W2 : World) (h : W0.grownBy W2 (some g21)) => (B13.out.kept h (by simp; omega)).cell
    have bx20 := fun (W2 : World) (h : W0.grownBy W2 (some g21)) => cells3 ((h.block w4.heap.size (by omega) (by simp; omega)).trans B20.out)
    have bxI := fun (W2 : World) (h : W0.grownBy W2 (some g21)) => ints_grown INS.out h (by have := Hb.out; have := z1; have := z3; have := z4; omega)
    have HX8 := Lib.hid bx8
    have HX9 := Lib.hid bx9
    have HX12 := Lib.hid bx12
    have HX13 := Lib.hid bx13
    have HX20 := Lib.hid bx20
    have HXI := Lib.hid bxI
    clear bx8 bx9 bx12 bx13 bx20 bxI
    have v8 : (v : Nat) < 8 := v.2
    have e1 : IntKind.i64.wrap (A12 + x) = (px : Int) := by rw [hpx]; exact IntWalk.i64_in _ (by omega)
    have e2 : IntKind.i64.wrap (A13 + y) = (py : Int) := by rw [hpy]; exact IntWalk.i64_in _ (by omega)
    have e4 : IntKind.i64.wrap ((py : Int) + ((v : Nat) : Int)) = (py : Int) + ((v : Nat) : Int) := by exact IntWalk.i64_in _ (by omega)
    have HR := Lib.hid hrow
    have HV := Lib.hid hv
    have HG := Lib.hid hG
    clear hrow hv hG hpx hpy
    gi_wp2
    gi_loopw [97] (fun i wr => ∃ u : Nat, u ≤ 8 ∧ i = .int .i64 u ∧ (∃ v2, Boxed wr g21 30 v2 ∧ wr.ownsRow W0.heap.size 5 1 v2 (8 * pre.length + u) (pixRows f D px py W pre ++ pixRow f D px py W v.val u)) ∧ W0.grownBy wr (some g21) ∧ KeepsFrom W0.heap.size W1 wr) (fun i _ => 8 - (intOf i).toNat)
    case atStart => exact ⟨0, by omega, rfl, ⟨v1, HV.out, by simpa [pixRow] using HR.out⟩, HG.out, KeepsFrom.refl _ _⟩
    case round =>
      obtain ⟨u, hu, rfl, ⟨v2, hv2, hr2⟩, hG2, hK2⟩ := hrel
      have HV2 := Lib.hid hv2
      have HR2 := Lib.hid hr2
      have HG2 := Lib.hid hG2
      have HK2 := Lib.hid hK2
      clear hv2 hr2 hG2 hK2
      by_cases h8 : u < 8
      · have c8 := HX8.out wr HG2.out
        have c9 := HX9.out wr HG2.out
        have c12 := HX12.out wr HG2.out
        have c13 := HX13.out wr HG2.out
        obtain ⟨c20, c21, c22⟩ := HX20.out wr HG2.out
        have e3 : IntKind.i64.wrap ((px : Int) + (u : Int)) = (px : Int) + (u : Int) := by exact IntWalk.i64_in _ (by omega)
        have ub : (u : Int) < 8 := by omega
        gi_wp2_with (refine ⟨trivial, ?_⟩; gi_at_call 87; refine (CallsIn.inRound l (callsIn_wide.2 (in_any _ _ _ _ rfl W H _ _ _))).mono ?_; rintro e w' ⟨rfl, rfl⟩; rw [INP.out u v.val h8 v8])
        obtain ⟨W2, hW2⟩ : ∃ W2, wr.alloc (.cells #[.slice (some ⟨b, o + D, none⟩) m c', .int .i64 W, .int .i64 H] 119) = W2 := ⟨_, rfl⟩
        have HG3 : Hid (W0.grownBy W2 (some g21)) := Lib.hid (by rw [← hW2]; exact grown_more HG2.out (World.grownBy_alloc wr _ none) (fun _ e => by cases e))
        have HK3 : Hid (KeepsFrom W0.heap.size W1 W2) := Lib.hid (by rw [← hW2]; exact HK2.out.trans ((KeepsOthers.alloc wr _).from _))
        have HV3 : Hid (Boxed W2 g21 30 v2) := Lib.hid (by rw [← hW2]; exact HV2.out.alloc _)
        have HR3 : Hid (W2.ownsRow W0.heap.size 5 1 v2 (8 * pre.length + u) (pixRows f D px py W pre ++ pixRow f D px py W v.val u)) := Lib.hid (by rw [← hW2]; exact HR2.out.alloc _)
        rw [hW2]
        clear hW2 c8 c9 c12 c13 c20 c21 c22 HV2 HR2 HG2 HK2
        have p8 := Past.cell (HX8.out W2 HG3.out)
        have p9 := Past.cell (HX9.out W2 HG3.out)
        have p12 := Past.cell (HX12.out W2 HG3.out)
        have p13 := Past.cell (HX13.out W2 HG3.out)
        have p20 := Past.cell (HX20.out W2 HG3.out).1
        have p201 := Past.cell (HX20.out W2 HG3.out).2.1
        have p202 := Past.cell (HX20.out W2 HG3.out).2.2
        have p21 := Past.cell HV3.out.cell
        obtain ⟨p, hp, hpm, hps⟩ := PIX.out u v.val h8 v8
        have AT : ∀ x : Past W2, Calls Tryz.prog 91 #[.agg #[.slice (some ⟨b, o + D, none⟩) m c', .int .i64 W, .int .i64 H], .int .i64 ((px : Int) + (u : Int)), .int .i64 ((py : Int) + ((v : Nat) : Int))] x.now fun e w' => e = .returned (.int .u8 (pixS f D px py W v u)) ∧ Below x.now.heap.size x.now w' := fun x2 => by
          have h1 := at_any b (o + D) m c' (fun i => f (D + i)) W H (px + u) (py + v) p hp hpm hW0 (by omega) x2.now ((HXI.out W2 HG3.out).below x2.kept (HXI.out W2 HG3.out |>.lt (by omega)))
          rw [Int.natCast_add, Int.natCast_add] at h1
          refine h1.mono ?_
          rintro e w' ⟨rfl, rfl⟩
          exact ⟨by rw [hps], (Below.refl _ _).alloc (Nat.le_refl _) _⟩
        clear hp hpm hps
        refine regionIn_float_round (v := v2) 13 (by kernel_rfl) (by kernel_rfl) rfl rfl rfl (Or.inl ⟨rfl, fun w' ⟨x2, hx2⟩ => by subst hx2; go_simp⟩) ?_
        simp only [List.take_succ_cons, List.take_zero, List.drop_succ_cons, List.drop_zero]
        simp only [Act.put, List.setIfInBounds_toArray, List.set_cons_zero, List.set_cons_succ]
        repeat (go_big_quiet_step ((go_at_call 91; exact past_call (AT _))))
        refine wpQuiet_nil ?_
        rintro w5 ⟨⟨_, h5⟩, rfl⟩
        have HR5 := own_past HR3.out h5
        have HV5 : Boxed w5 g21 30 v2 := HV3.out.kept (grown_of_below h5 none) (by simp)
        have HG5 := Lib.hid (grown_more HG3.out (grown_of_below h5 none) (fun _ e => by cases e))
        have HK5 := Lib.hid (HK3.out.trans (KeepsFrom.of_grownBy (grown_of_below h5 none) (fun _ e => by cases e)))
        obtain ⟨i0, hi0, hz0, hz1, hz2⟩ := info_parts info_u8
        have bk : 8 * pre.length + u + 1 ≤ maxLen := Nat.le_trans (show _ ≤ 64 by omega) (by decide)
        refine ⟨fun _ _ => trivial, ?_⟩
        go_simp
        refine ⟨⟨⟨_, h5.alloc h5.size _⟩, rfl⟩, ?_⟩
        have sz5 := HG5.out.size
        clear p8 p9 p12 p13 p20 p201 p202 p21 AT
        gi_wp2_with (gi_at_builtin; refine wpListIn_append_own _ rfl _ _ 30 rfl W0.heap.size 5 i0 (.int .u8 0) 1 1 Tryz.underlying30 hi0 hz0 hz1 hz2 rfl (by decide) v2 _ _ rfl (HR5.alloc _) ⟨w5.heap.size, 0, none⟩ 1 1 [.int .u8 (pixS f D px py W v u)] rfl rfl (cell_one_new _ _ _) (by simp [Value.oneCell']) bk (by omega) (by simp; omega) ?_; intro v3 w6 hown hgr _; obtain ⟨g3, cap3, rfl⟩ := ownsRow_succ hown; obtain ⟨hv1, hv2, _, hk2, _⟩ := HV5.appended (by decide) (own_base HR5) (Nat.zero_le _) (Nat.zero_le _) (own_base hown) hgr; have hc1 := hv1.cell; have hf1 := hv1.frozen; have HOWN := Lib.hid hown; have HGR := Lib.hid hgr; have HV6 := Lib.hid hv2; have HK6 := Lib.hid hk2; clear hown hgr hv2 hk2)
        simp only [onlyN]
        gi_wp2
        go_roundw
        case rel =>
          refine ⟨u + 1, by omega, by go_num, ⟨_, HV6.out, ?_⟩, ?_, ?_⟩
          · rw [pixRow_succ, ← List.append_assoc]
            exact HOWN.out.kept (grownBy_setCell' w6 g21 _) (.inr (hv1.not_row (by decide) HOWN.out).symm)
          · refine grown_more (grown_more (grown_more HG5.out (World.grownBy_alloc w5 _ none) (fun _ e => by cases e)) HGR.out (fun r e => .inl (own_ge HR5 r e))) (grownBy_setCell' w6 g21 _) (fun r e => .inr (by cases e; rfl))
          · exact HK5.out.trans (HK6.out.from _)
        case measure => simp [intOf]; omega
      · obtain rfl : u = 8 := by omega
        gi_wp2
        exact ⟨HK2.out, trivial, ⟨_, HV2.out, by rw [pixRows_snoc, List.length_append]; exact HR2.out, trivial⟩, HG2.out⟩
  case done =>
    rintro D2 ys W1 hD rfl ⟨⟨v1, hv, hrow, _⟩, hG⟩ hK
    have c21 := hv.cell
    have HB2 := HB.out.grown hG HB.out.size (fun q e => by have := HB.out.size; cases e; omega)
    have hrow2 := own_low HB.out.size hrow
    rw [pix_all, show 8 * (List.finRange 8).length = 64 from rfl, List.map_congr_left (g := fun i => Value.int .u8 (fetF f n g a k x y i)) (fun i hi => by rw [FF.out i (List.mem_range.1 hi)])] at hrow2
    have hrow3 := ownsRow_putObj hrow2 (.deferred none) hK rfl
    have HF := Lib.hid (Res.of_own (k := .u8) hrow3)
    have HB3 := Lib.hid (HB2.grown (grownBy_putObj' W1 D2 (.deferred none)) HB2.size (fun q e => by have := HB2.size; have := HB.out.size; cases e; omega))
    clear hrow hrow2 hrow3 hv hG HB2
    gi_wp2
    go_wp2_with fail
    try (simp only [Exit.noGoto])
    refine ⟨by simp, .inl ⟨_, _, rfl, run_takeDeferred hK, ?_⟩⟩
    exact ⟨_, results_tmp2 rfl _ _ _, _, rfl, HF.out, HB3.out⟩
  case stop =>
    rintro D c pre W1 _ _ h _
    exact h.elim
end Mo
end Go.Proofs.YtbmglemjfodfhaaGreat
namespace Go.Proofs.YtbmglemjfodfhaaGreat
open Go.RowKit Go.Shelf
attribute [local go_sem] Oper.semAt_some
namespace Mo
open Fr
def st5 (w : World) (p q r s : Addr) (u v x y : Value) : Nat → World
  | 0 => w.drew
  | 1 => w.drew.setCell p u
  | 2 => (w.drew.setCell p u).setCell q v
  | 3 => ((w.drew.setCell p u).setCell q v).setCell r x
  | _ => (((w.drew.setCell p u).setCell q v).setCell r x).setCell s y
theorem st5_q {w : World} {p q r s : Addr} {u v x y z : Value} {b : Addr} (h : w.cell? b = some z) (n : Nat) (hn : n ≤ 3) (h1 : 1 ≤ n → p ≠ b) (h2 : 2 ≤ n → q ≠ b) (h3 : 3 ≤ n → r ≠ b) : ∀ t, t ≤ n → (st5 w p q r s u v x y t).cell? b = some z
  | 0, _ => h
  | 1, ht => (World.cell?_setCell_other _ _ _ _ (h1 ht)).trans h
  | 2, ht => (World.cell?_setCell_other _ _ _ _ (h2 ht)).trans ((World.cell?_setCell_other _ _ _ _ (h1 (by omega))).trans h)
  | 3, ht => (World.cell?_setCell_other _ _ _ _ (h3 ht)).trans ((World.cell?_setCell_other _ _ _ _ (h2 (by omega))).trans ((World.cell?_setCell_other _ _ _ _ (h1 (by omega))).trans h))
  | _ + 4, ht => absurd ht (by omega)
theorem st5_fq {w : World} {p q r s : Addr} {u v x y : Value} {b : Addr} (h : w.frozen? b = false) : ∀ t, t ≤ 3 → (st5 w p q r s u v x y t).frozen? b = false
  | 0, _ => h
  | 1, _ => (World.frozen?_setCell _ _ _ _).trans h
  | 2, _ => (World.frozen?_setCell _ _ _ _).trans ((World.frozen?_setCell _ _ _ _).trans h)
  | 3, _ => (World.frozen?_setCell _ _ _ _).trans ((World.frozen?_setCell _ _ _ _).trans ((World.frozen?_setCell _ _ _ _).trans h))
  | _ + 4, ht => absurd ht (by omega)
set_option maxRecDepth 100000 in
set_option maxHeartbeats 4000000 in
theorem fetch_chroma (b o N c : Nat) (f : Nat → Int) (n g a k x y : Int) (w : World) (h : Ints w .u8 b o N f) (hb : b < w.heap.size) (hc : N ≤ c) (hcm : c ≤ maxLen) (hN : (N : Int) = zV n) (hk : 5 ≤ k ∧ k ≤ 6) (hv : vE n g a x y = 0) (hx : (Lit.int .i64 x).wf = true) (hy : (Lit.int .i64 y).wf = true) :
    Calls Tryz.prog 48 #[.slice (some ⟨b, o, none⟩) N c, .agg #[.int .i64 n, .int .i64 g, .int .i64 a], .int .i64 k, .int .i64 x, .int .i64 y] w fun e w' => ∃ v, e = .returned (.tuple #[v, .int .i64 0]) ∧ Res .u8 w.heap.size w' v 64 (fetF f n g a k x y) ∧ Below w.heap.size w w' := by
  obtain ⟨hce, hxy, hX0, hX1, hY0, hY1⟩ := vE_zero hv
  have hn := (cE_cases n g a hce).1
  have bX := cX_bd n g a hce
  have bY := cY_bd n g a hce
  have bW := wh_bd n
  have pin := pXY_in hv (k := k) (by omega)
  have pdi := pD_in hn (k := k) (by omega)
  obtain ⟨D, m, c', hD, hm, ix⟩ := plane_at n k hn (by omega) b o c
  obtain ⟨X, eX⟩ : ∃ X, cX n g a = X := ⟨_, rfl⟩
  obtain ⟨Y, eY⟩ : ∃ Y, cY n g a = Y := ⟨_, rfl⟩
  obtain ⟨W, eW⟩ : ∃ W, pW n k = W := ⟨_, rfl⟩
  obtain ⟨H, eH⟩ : ∃ H, pH n k = H := ⟨_, rfl⟩
  rw [show max 0 (k - 4) = k - 4 by omega, eW, eH] at ix
  have ePX : pX n g a k x = X / 2 + x.tdiv 2 := by unfold pX; rw [if_neg (by omega), eX]
  have ePY : pY n g a k y = Y / 2 + y.tdiv 2 := by unfold pY; rw [if_neg (by omega), eY]
  rw [eW, eH] at pin pdi
  rw [eX] at bX
  rw [eY] at bY
  have HC := Lib.hid hce
  have HV := Lib.hid hv
  have HN := Lib.hid hn
  have HZ := Lib.hid hN
  have HX := Lib.hid eX
  have HY := Lib.hid eY
  have IN := Lib.hid h
  have mx : ∀ w', (Builtin.max_ #[3, 3] 3 #[.int .i64 0, .int .i64 (k - 4)]).run Tryz.prog w' = .ok (.int .i64 (k - 4)) w' := fun w' => by rw [Lib.run_max_ints, show max 0 (k - 4) = k - 4 by omega]
  have t1 : (((N : Nat) : Int) != ((N : Nat) : Int)) = false := by simp
  have Xb : 0 ≤ X ∧ X ≤ 400 := by omega
  have Yb : 0 ≤ Y ∧ Y ≤ 400 := by omega
  have HIN := Lib.hid pin
  have HDI := Lib.hid pdi
  have HM := Lib.hid hm
  have HD := Lib.hid hD
  have HW := Lib.hid eW
  have HH := Lib.hid eH
  have HPX := Lib.hid ePX
  have HPY := Lib.hid ePY
  have HNc := Lib.hid hc
  have HXY := Lib.hid hxy
  have Hb := Lib.hid hb
  clear hce hv h hX0 hX1 hY0 hY1 bX bY bW pin pdi hm hD eX eY eW eH ePX ePY hN hn hc hcm hxy hb
  refine (callsIn_wide (n := 12)).1 ?_
  refine callsIn_of_wp_marks Tryz.func48 rfl trivial ?_ rfl
  simp only [Tryz.ntmps48, List.size_toArray, List.length_cons, List.length_nil, Nat.reduceAdd, Nat.reduceSub, Array.replicate_succ, Array.replicate_zero, List.push_toArray, List.append_toArray, List.nil_append, List.cons_append]
  refine wpIn_wide.2 ?_
  go_wp2_with fail
  refine wp_scope_straight ?_
  go_wp2_with (first
    | (go_at_call 86; refine (Corner_any n g a _).mono ?_; rintro e w1 ⟨rfl, hB⟩; rw [HC.out, HX.out, HY.out]; have h6 := heap_a3 w w1 _ _ _ hB; have c60 := cell_a2 h6.1 0 rfl; have c61 := cell_a2 h6.1 1 rfl; have c62 := cell_a2 h6.1 2 rfl; have c8 := cell_a2 h6.2.1 0 rfl; have c9 := cell_a2 h6.2.2 0 rfl; have B8 := Lib.hid h6.2.1; have B9 := Lib.hid h6.2.2; clear h6; have HB := Lib.hid (chain ((((Below.refl w.heap.size w).alloc (Nat.le_refl _) _).alloc (by simp) _).alloc (by simp; omega) _) hB); have z1 := hB.size; simp at z1; have Z1 := Lib.hid z1; clear hB z1)
    | (go_at_call 73; refine (Size_any n _).mono ?_; rintro e w2 ⟨rfl, rfl⟩; rw [← HZ.out])
    | (go_at_call 45; refine (Fits_any n g a x y _ hx hy).mono ?_; rintro e w3 ⟨rfl, hB⟩; rw [HV.out]; have h12 := boxes2 w1 w3 _ _ hB; have z3 := hB.size; simp at z3; have Z3 := Lib.hid z3; clear z3; have B8 : Hid (Boxed w3 (w.heap.size + 1) 3 (.int .i64 x)) := Lib.hid (((Boxed.alloc (Boxed.alloc B8.out _) _)).kept (grown_of_below hB none) (by simp)); have B9 : Hid (Boxed w3 (w.heap.size + 1 + 1) 3 (.int .i64 y)) := Lib.hid (((Boxed.alloc (Boxed.alloc B9.out _) _)).kept (grown_of_below hB none) (by simp)); have B12 := Lib.hid h12.1; have B13 := Lib.hid h12.2; have HB := Lib.hid (chain ((HB.out.alloc HB.out.size _).alloc (by have := HB.out.size; simp; omega) _) hB); clear hB h12 c60 c61 c62 c8 c9)
    | (go_at_call 88; refine (planes_any n HN.out N b o c HZ.out HNc.out _).mono ?_; rintro e w4 ⟨rfl, hB⟩; have Z4 := Lib.hid hB.size; have n12 : ¬ w1.heap.size = w4.heap.size := (by have := Z4.out; have := Z3.out; omega); have n13 : ¬ w1.heap.size + 1 = w4.heap.size := (by have := Z4.out; have := Z3.out; omega); have B8 := Lib.hid (B8.out.kept (grown_of_below hB none) (by simp)); have B9 := Lib.hid (B9.out.kept (grown_of_below hB none) (by simp)); have B12 := Lib.hid (B12.out.kept (grown_of_below hB none) (by simp)); have B13 := Lib.hid (B13.out.kept (grown_of_below hB none) (by simp)); have HB := Lib.hid (chain HB.out hB); have d12 := Boxed.cell2 B12.out; have d13 := Boxed.cell2 B13.out; have f12 := Boxed.froz2 B12.out; have f13 := Boxed.froz2 B13.out; clear hB))
  obtain ⟨W5, hW5⟩ : ∃ W5, w4.alloc (.cells #[.slice (some ⟨b, o + D, none⟩) m c', .int .i64 W, .int .i64 H] 119) = W5 := ⟨_, rfl⟩
  have c12 := d12 (.cells #[.slice (some ⟨b, o + D, none⟩) m c', .int .i64 W, .int .i64 H] 119)
  have c13 := d13 (.cells #[.slice (some ⟨b, o + D, none⟩) m c', .int .i64 W, .int .i64 H] 119)
  have z12 := f12 (.cells #[.slice (some ⟨b, o + D, none⟩) m c', .int .i64 W, .int .i64 H] 119)
  have z13 := f13 (.cells #[.slice (some ⟨b, o + D, none⟩) m c', .int .i64 W, .int .i64 H] 119)
  have B8 := Lib.hid (B8.out.alloc (.cells #[.slice (some ⟨b, o + D, none⟩) m c', .int .i64 W, .int .i64 H] 119))
  have B9 := Lib.hid (B9.out.alloc (.cells #[.slice (some ⟨b, o + D, none⟩) m c', .int .i64 W, .int .i64 H] 119))
  have B12 := Lib.hid (B12.out.alloc (.cells #[.slice (some ⟨b, o + D, none⟩) m c', .int .i64 W, .int .i64 H] 119))
  have B13 := Lib.hid (B13.out.alloc (.cells #[.slice (some ⟨b, o + D, none⟩) m c', .int .i64 W, .int .i64 H] 119))
  have B20 := Lib.hid (heap_alloc_new w4 (.cells #[.slice (some ⟨b, o + D, none⟩) m c', .int .i64 W, .int .i64 H] 119))
  have HB := Lib.hid (HB.out.alloc HB.out.size (.cells #[.slice (some ⟨b, o + D, none⟩) m c', .int .i64 W, .int .i64 H] 119))
  have hz : W5.heap.size = w4.heap.size + 1 := by rw [← hW5]; simp
  rw [hW5] at c12 c13 z12 z13 B8 B9 B12 B13 B20 HB ⊢
  have HZ5 := Lib.hid hz
  have c8 := B8.out.cell
  have c9 := B9.out.cell
  have z8 := B8.out.frozen
  have z9 := B9.out.frozen
  have z1 := Z1.out
  have n1 : (⟨w1.heap.size, 0, none⟩ : Addr) ≠ ⟨w1.heap.size + 1, 0, none⟩ := by simp
  have n2 : (⟨w1.heap.size, 0, none⟩ : Addr) ≠ ⟨w.heap.size + 1, 0, none⟩ := fun e => by injection e; omega
  have n3 : (⟨w1.heap.size + 1, 0, none⟩ : Addr) ≠ ⟨w.heap.size + 1, 0, none⟩ := fun e => by injection e; omega
  have n4 : (⟨w1.heap.size, 0, none⟩ : Addr) ≠ ⟨w.heap.size + 1 + 1, 0, none⟩ := fun e => by injection e; omega
  have n5 : (⟨w1.heap.size + 1, 0, none⟩ : Addr) ≠ ⟨w.heap.size + 1 + 1, 0, none⟩ := fun e => by injection e; omega
  have n6 : (⟨w.heap.size + 1, 0, none⟩ : Addr) ≠ ⟨w.heap.size + 1 + 1, 0, none⟩ := fun e => by injection e; omega
  clear hW5 d12 d13 f12 f13 n12 n13 hz z1
  refine (wpIn_wide (n := 12)).1 ?_
  refine regionIn_stage 8 [0, 0, 1, 1, 2, 2, 3, 3] (st5 W5 ⟨w1.heap.size, 0, none⟩ ⟨w1.heap.size + 1, 0, none⟩ ⟨w.heap.size + 1, 0, none⟩ ⟨w.heap.size + 1 + 1, 0, none⟩ (.int .i64 (X / 2)) (.int .i64 (Y / 2)) (.int .i64 (x.tdiv 2)) (.int .i64 (y.tdiv 2))) (by kernel_rfl) (by kernel_rfl) rfl ?_
  simp only [List.take_succ_cons, List.take_zero, List.drop_succ_cons, List.drop_zero]
  have g12 : ∀ t, t ≤ 0 → ((st5 W5 ⟨w1.heap.size, 0, none⟩ ⟨w1.heap.size + 1, 0, none⟩ ⟨w.heap.size + 1, 0, none⟩ ⟨w.heap.size + 1 + 1, 0, none⟩ (.int .i64 (X / 2)) (.int .i64 (Y / 2)) (.int .i64 (x.tdiv 2)) (.int .i64 (y.tdiv 2))) t).cell? ⟨w1.heap.size, 0, none⟩ = some (.int .i64 X) := st5_q c12 0 (by omega) (fun h => by omega) (fun h => by omega) (fun h => by omega)
  have g13 : ∀ t, t ≤ 1 → ((st5 W5 ⟨w1.heap.size, 0, none⟩ ⟨w1.heap.size + 1, 0, none⟩ ⟨w.heap.size + 1, 0, none⟩ ⟨w.heap.size + 1 + 1, 0, none⟩ (.int .i64 (X / 2)) (.int .i64 (Y / 2)) (.int .i64 (x.tdiv 2)) (.int .i64 (y.tdiv 2))) t).cell? ⟨w1.heap.size + 1, 0, none⟩ = some (.int .i64 Y) := st5_q c13 1 (by omega) (fun _ => n1) (fun h => by omega) (fun h => by omega)
  have g8 : ∀ t, t ≤ 2 → ((st5 W5 ⟨w1.heap.size, 0, none⟩ ⟨w1.heap.size + 1, 0, none⟩ ⟨w.heap.size + 1, 0, none⟩ ⟨w.heap.size + 1 + 1, 0, none⟩ (.int .i64 (X / 2)) (.int .i64 (Y / 2)) (.int .i64 (x.tdiv 2)) (.int .i64 (y.tdiv 2))) t).cell? ⟨w.heap.size + 1, 0, none⟩ = some (.int .i64 x) := st5_q c8 2 (by omega) (fun _ => n2) (fun _ => n3) (fun h => by omega)
  have g9 : ∀ t, t ≤ 3 → ((st5 W5 ⟨w1.heap.size, 0, none⟩ ⟨w1.heap.size + 1, 0, none⟩ ⟨w.heap.size + 1, 0, none⟩ ⟨w.heap.size + 1 + 1, 0, none⟩ (.int .i64 (X / 2)) (.int .i64 (Y / 2)) (.int .i64 (x.tdiv 2)) (.int .i64 (y.tdiv 2))) t).cell? ⟨w.heap.size + 1 + 1, 0, none⟩ = some (.int .i64 y) := st5_q c9 3 (by omega) (fun _ => n4) (fun _ => n5) (fun _ => n6)
  have y12 : ∀ t, t ≤ 3 → ((st5 W5 ⟨w1.heap.size, 0, none⟩ ⟨w1.heap.size + 1, 0, none⟩ ⟨w.heap.size + 1, 0, none⟩ ⟨w.heap.size + 1 + 1, 0, none⟩ (.int .i64 (X / 2)) (.int .i64 (Y / 2)) (.int .i64 (x.tdiv 2)) (.int .i64 (y.tdiv 2))) t).frozen? ⟨w1.heap.size, 0, none⟩ = false := st5_fq z12
  have y13 : ∀ t, t ≤ 3 → ((st5 W5 ⟨w1.heap.size, 0, none⟩ ⟨w1.heap.size + 1, 0, none⟩ ⟨w.heap.size + 1, 0, none⟩ ⟨w.heap.size + 1 + 1, 0, none⟩ (.int .i64 (X / 2)) (.int .i64 (Y / 2)) (.int .i64 (x.tdiv 2)) (.int .i64 (y.tdiv 2))) t).frozen? ⟨w1.heap.size + 1, 0, none⟩ = false := st5_fq z13
  have y8 : ∀ t, t ≤ 3 → ((st5 W5 ⟨w1.heap.size, 0, none⟩ ⟨w1.heap.size + 1, 0, none⟩ ⟨w.heap.size + 1, 0, none⟩ ⟨w.heap.size + 1 + 1, 0, none⟩ (.int .i64 (X / 2)) (.int .i64 (Y / 2)) (.int .i64 (x.tdiv 2)) (.int .i64 (y.tdiv 2))) t).frozen? ⟨w.heap.size + 1, 0, none⟩ = false := st5_fq z8
  have y9 : ∀ t, t ≤ 3 → ((st5 W5 ⟨w1.heap.size, 0, none⟩ ⟨w1.heap.size + 1, 0, none⟩ ⟨w.heap.size + 1, 0, none⟩ ⟨w.heap.size + 1 + 1, 0, none⟩ (.int .i64 (X / 2)) (.int .i64 (Y / 2)) (.int .i64 (x.tdiv 2)) (.int .i64 (y.tdiv 2))) t).frozen? ⟨w.heap.size + 1 + 1, 0, none⟩ = false := st5_fq z9
  have r1 : X.tdiv 2 = X / 2 := Int.tdiv_eq_ediv_of_nonneg (by omega)
  have r2 : Y.tdiv 2 = Y / 2 := Int.tdiv_eq_ediv_of_nonneg (by omega)
  refine stage_step (.int .i64 X) rfl (fun t ht => (by have := g12 t ht; go_simp)) ?_
  simp only [Act.put, List.setIfInBounds_toArray, List.set_cons_zero, List.set_cons_succ]
  refine stage_step (.int .i64 (X / 2)) rfl (fun t ht => (by go_simp; try exact IntWalk.i64_in _ (by omega))) ?_
  simp only [Act.put, List.setIfInBounds_toArray, List.set_cons_zero, List.set_cons_succ]
  refine stage_step (.int .i64 Y) rfl (fun t ht => (by have := g13 t ht; go_simp)) ?_
  simp only [Act.put, List.setIfInBounds_toArray, List.set_cons_zero, List.set_cons_succ]
  refine stage_step (.int .i64 (Y / 2)) rfl (fun t ht => (by go_simp; try exact IntWalk.i64_in _ (by omega))) ?_
  simp only [Act.put, List.setIfInBounds_toArray, List.set_cons_zero, List.set_cons_succ]
  refine stage_step (.int .i64 x) rfl (fun t ht => (by have := g8 t ht; go_simp)) ?_
  simp only [Act.put, List.setIfInBounds_toArray, List.set_cons_zero, List.set_cons_succ]
  refine stage_step (.int .i64 (x.tdiv 2)) rfl (fun t ht => (by go_simp; exact (Half_any _ (by have := HXY.out; omega) _).mono (by rintro e w' ⟨rfl, rfl⟩; exact ⟨rfl, rfl⟩))) ?_
  simp only [Act.put, List.setIfInBounds_toArray, List.set_cons_zero, List.set_cons_succ]
  refine stage_step (.int .i64 y) rfl (fun t ht => (by have := g9 t ht; go_simp)) ?_
  simp only [Act.put, List.setIfInBounds_toArray, List.set_cons_zero, List.set_cons_succ]
  refine stage_step (.int .i64 (y.tdiv 2)) rfl (fun t ht => (by go_simp; exact (Half_any _ (by have := HXY.out; omega) _).mono (by rintro e w' ⟨rfl, rfl⟩; exact ⟨rfl, rfl⟩))) ?_
  simp only [Act.put, List.setIfInBounds_toArray, List.set_cons_zero, List.set_cons_succ]
  refine tail_step rfl ⟨fun _ _ => trivial, ?_⟩
  have q0 := g12 0 (by omega)
  have u0 := y12 0 (by omega)
  go_simp
  refine ⟨rfl, ?_⟩
  refine tail_step rfl ⟨fun _ _ => trivial, ?_⟩
  have q1 := g13 1 (by omega)
  have u1 := y13 1 (by omega)
  go_simp
  refine ⟨rfl, ?_⟩
  refine tail_step rfl ⟨fun _ _ => trivial, ?_⟩
  have q2 := g8 2 (by omega)
  have u2 := y8 2 (by omega)
  go_simp
  refine ⟨rfl, ?_⟩
  refine tail_step rfl ⟨fun _ _ => trivial, ?_⟩
  have q3 := g9 3 (by omega)
  have u3 := y9 3 (by omega)
  go_simp
  refine ⟨rfl, ?_⟩
  obtain ⟨W6, hW6⟩ : ∃ W6, (((W5.drew.setCell ⟨w1.heap.size, 0, none⟩ (.int .i64 (X / 2))).setCell ⟨w1.heap.size + 1, 0, none⟩ (.int .i64 (Y / 2))).setCell ⟨w.heap.size + 1, 0, none⟩ (.int .i64 (x.tdiv 2))).setCell ⟨w.heap.size + 1 + 1, 0, none⟩ (.int .i64 (y.tdiv 2)) = W6 := ⟨_, rfl⟩
  have z1 := Z1.out
  have z3 := Z3.out
  have z4 := Z4.out
  have hb8 : Boxed W6 (w.heap.size + 1) 3 (.int .i64 (x.tdiv 2)) := by rw [← hW6]; exact Boxed.other (Boxed.set (.int .i64 (x.tdiv 2)) (Boxed.other (Boxed.other (W := W5.drew) B8.out (by omega) _) (by omega) _)) (by omega) _
  have hb9 : Boxed W6 (w.heap.size + 1 + 1) 3 (.int .i64 (y.tdiv 2)) := by rw [← hW6]; exact Boxed.set (.int .i64 (y.tdiv 2)) (Boxed.other (Boxed.other (Boxed.other (W := W5.drew) B9.out (by omega) _) (by omega) _) (by omega) _)
  have hb12 : Boxed W6 w1.heap.size 3 (.int .i64 (X / 2)) := by rw [← hW6]; exact Boxed.other (Boxed.other (Boxed.other (Boxed.set (W := W5.drew) (.int .i64 (X / 2)) B12.out) (by omega) _) (by omega) _) (by omega) _
  have hb13 : Boxed W6 (w1.heap.size + 1) 3 (.int .i64 (Y / 2)) := by rw [← hW6]; exact Boxed.other (Boxed.other (Boxed.set (.int .i64 (Y / 2)) (Boxed.other (W := W5.drew) B13.out (by omega) _)) (by omega) _) (by omega) _
  have hb20 : W6.heap[w4.heap.size]? = some (.cells #[.slice (some ⟨b, o + D, none⟩) m c', .int .i64 W, .int .i64 H] 119 (0, 0)) := by
    rw [← hW6]
    exact (Below.heap_setCell _ _ _ _ (by simp; omega)).trans ((Below.heap_setCell _ _ _ _ (by simp; omega)).trans ((Below.heap_setCell _ _ _ _ (by simp; omega)).trans ((Below.heap_setCell W5.drew _ _ _ (by simp; omega)).trans B20.out)))
  have hbB : Below w.heap.size w W6 := by rw [← hW6]; exact (((HB.out.drew.setCell (p := ⟨w1.heap.size, 0, none⟩) (by simp; omega) _).setCell (p := ⟨w1.heap.size + 1, 0, none⟩) (by simp; omega) _).setCell (p := ⟨w.heap.size + 1, 0, none⟩) (by simp) _).setCell (p := ⟨w.heap.size + 1 + 1, 0, none⟩) (by simp; omega) _
  have hz6 : W6.heap.size = w4.heap.size + 1 := by rw [← hW6]; simp [World.setCell]; exact HZ5.out
  have HH := HXY.out
  have td := fun z => tdiv2 z
  obtain ⟨xh, hxh⟩ : ∃ z, x.tdiv 2 = z := ⟨_, rfl⟩
  obtain ⟨yh, hyh⟩ : ∃ z, y.tdiv 2 = z := ⟨_, rfl⟩
  have bxh : -10 ≤ xh ∧ xh ≤ 10 := by rw [← hxh]; have := td x; omega
  have byh : -10 ≤ yh ∧ yh ≤ 10 := by rw [← hyh]; have := td y; omega
  show onlyN _ Exit.normal _ _
  simp only [onlyN, st5]
  rw [hW6]
  clear hW6 g12 g13 g8 g9 q0 q1 q2 q3 u0 u1 u2 u3 y12 y13 y8 y9 c12 c13 z12 z13 c8 c9 z8 z9 n1 n2 n3 n4 n5 n6 B8 B9 B12 B13 B20 HB HZ5 HH td
  rw [hxh] at hb8 HPX ⊢
  rw [hyh] at hb9 HPY ⊢
  have B8 := Lib.hid hb8
  have B9 := Lib.hid hb9
  have B12 := Lib.hid hb12
  have B13 := Lib.hid hb13
  have B20 := Lib.hid hb20
  have HB := Lib.hid hbB
  clear hb8 hb9 hb12 hb13 hb20 hbB
  have HIN' := HIN.out
  rw [HPX.out, HPY.out] at HIN'
  obtain ⟨A12, hA12⟩ : ∃ A, X / 2 = A := ⟨_, rfl⟩
  obtain ⟨A13, hA13⟩ : ∃ A, Y / 2 = A := ⟨_, rfl⟩
  have bA12 : 0 ≤ A12 ∧ A12 ≤ 500 := by omega
  have bA13 : 0 ≤ A13 ∧ A13 ≤ 500 := by omega
  rw [hA12] at B12 HPX HIN' ⊢
  rw [hA13] at B13 HPY HIN' ⊢
  obtain ⟨px, hpx⟩ : ∃ px : Nat, A12 + xh = (px : Int) := ⟨(A12 + xh).toNat, by omega⟩
  obtain ⟨py, hpy⟩ : ∃ py : Nat, A13 + yh = (py : Int) := ⟨(A13 + yh).toNat, by omega⟩
  rw [hpx, hpy] at HIN'
  obtain ⟨hi1, hi2, hi3, hi4⟩ := HIN'
  obtain ⟨hd1, hd2, hd3, hd4, hd5, hd6⟩ := HDI.out
  have mWH : (m : Int) = W * H := by rw [HM.out, HW.out, HH.out]
  have hDN : D + m ≤ N := by have h1 := HD.out; have h2 := HZ.out; rw [← mWH] at hd2; omega
  have PIX := Lib.hid (pix (f := f) (D := D) (px := px) (py := py) (m := m) (W := W) (H := H) mWH hd3 (by omega) (by omega))
  have INP : Hid (∀ u v : Nat, u < 8 → v < 8 → inP W H ((px : Int) + (u : Int)) ((py : Int) + (v : Int)) = true) := Lib.hid (fun u v hu hv => by unfold inP; rw [decide_eq_true_eq]; omega)
  have hW0 : 0 ≤ W ∧ W ≤ 1000 := by omega
  have bpx : (px : Int) ≤ 400 ∧ (py : Int) ≤ 400 := by omega
  have FF : Hid (∀ i, i < 64 → pixS f D px py W (i / 8) (i % 8) = fetF f n g a k x y i) := Lib.hid (fun i hi => pix_fet HD.out HW.out (HPX.out.trans hpx) (HPY.out.trans hpy) hd3 i)
  clear hi1 hi2 hi3 hi4 hd1 hd2 hd3 hd4 hd5 hd6 mWH HIN HDI r1 r2
  have SZ : W6.heap.size = w4.heap.size + 1 := hz6
  go_wp2_with fail
  refine wp_label ?_
  go_wp2_with (go_at_call 90; refine (callsIn_wide.1 (rows_in Fence.wide 11 trivial rfl _)).mono ?_; rintro e w5 ⟨rfl, rfl⟩)
  have B8 := Lib.hid (B8.out.alloc (.cells #[.slice none 0 0] 30))
  have B9 := Lib.hid (B9.out.alloc (.cells #[.slice none 0 0] 30))
  have B12 := Lib.hid (B12.out.alloc (.cells #[.slice none 0 0] 30))
  have B13 := Lib.hid (B13.out.alloc (.cells #[.slice none 0 0] 30))
  have B20 := Lib.hid ((Below.heap_alloc W6 (.cells #[.slice none 0 0] 30) w4.heap.size (by omega)).trans B20.out)
  have B21 := Lib.hid (Boxed.new W6 30 (.slice none 0 0))
  have HB := Lib.hid (HB.out.alloc HB.out.size (.cells #[.slice none 0 0] 30))
  have INS : Hid (Ints w .u8 b (o + D) m (fun i => f (D + i))) := Lib.hid (fun i hi => by have := IN.out (D + i) (by omega); rw [Nat.add_assoc]; exact this)
  obtain ⟨W0, hW0e⟩ : ∃ W0, W6.alloc (.cells #[.slice none 0 0] 30) = W0 := ⟨_, rfl⟩
  have hz0 : W0.heap.size = w4.heap.size + 2 := by rw [← hW0e]; simp; omega
  rw [hW0e] at B8 B9 B12 B13 B20 B21 HB ⊢
  rw [SZ] at B21
  clear hW0e hz6 IN SZ
  have INS := Lib.hid (INS.out.below HB.out Hb.out)
  obtain ⟨g21, hg21⟩ : ∃ g, w4.heap.size + 1 = g := ⟨_, rfl⟩
  rw [hg21] at B21 ⊢
  refine (wpIn_wide (n := 12)).1 ?_
  refine wpIn_rangeFunc_ownH (F := Fence.wide) rfl (by omega) (gf := 133) (lb := #[]) rfl trivial (enters_of Tryz.func133 (by kernel_rfl) rfl)
    (rows_stops Fence.wide 11 trivial rfl (by omega) W0) kp0_t kp0_b (Below.refl _ _) (fun _ => rfl)
    (fun pre W1 => (∃ v, Boxed W1 g21 30 v ∧ W1.ownsRow W0.heap.size 5 1 v (8 * pre.length) (pixRows f D px py W pre) ∧ True) ∧ W0.grownBy W1 (some g21))
    (fun _ _ _ => False)
    (OwnFrom.and (Own.from (holdsRow_own W0.heap.size g21 30 5 1 (fun pre : List (Fin 8) => 8 * pre.length) (fun pre => pixRows f D px py W pre) (fun _ _ => True)) _) (ownFrom_grown _ (Nat.le_refl _)))
    (fun _ _ _ _ _ hs _ _ => hs)
    ⟨⟨_, B21.out, World.ownsRow_nil _ _ _ _, trivial⟩, World.grownBy.refl _ _⟩
    (fun v a' _ => a' = { tmps := #[Value.slice (some { block := b, off := o }) N c, Value.agg #[Value.int IntKind.i64 n, Value.int IntKind.i64 g, Value.int IntKind.i64 a], Value.int IntKind.i64 k, Value.int IntKind.i64 x, Value.int IntKind.i64 y, undef, Value.pointer (some { block := w.heap.size, off := 0 }), undef, Value.pointer (some { block := w.heap.size + 1, off := 0 }), Value.pointer (some { block := w.heap.size + 1 + 1, off := 0 }), Value.slice none 0 0, Value.int IntKind.i64 0, Value.pointer (some { block := w1.heap.size, off := 0 }), Value.pointer (some { block := w1.heap.size + 1, off := 0 }), Value.int IntKind.i64 0, Value.int IntKind.i64 (wV n), Value.int IntKind.i64 (hV n), Value.int IntKind.i64 ↑N, Value.int IntKind.i64 (fE n), Value.int IntKind.i64 0, Value.pointer (some { block := w4.heap.size, off := 0 }), Value.pointer (some { block := g21, off := 0 }), .int .i64 ((v : Nat) : Int), undef, Value.tuple #[Value.int IntKind.i64 X, Value.int IntKind.i64 Y, Value.int IntKind.i64 0], Value.pointer (some { block := w.heap.size, off := 0 }), Value.int IntKind.i64 n, Value.pointer (some { block := w.heap.size, off := 1 }), Value.int IntKind.i64 g, Value.pointer (some { block := w.heap.size, off := 2 }), Value.int IntKind.i64 a, Value.tuple #[Value.int IntKind.i64 X, Value.int IntKind.i64 Y, Value.int IntKind.i64 0], Value.int IntKind.i64 X, Value.int IntKind.i64 Y, Value.int IntKind.i64 0, Value.int IntKind.i64 0, Value.bool false, undef, Value.tuple #[Value.int IntKind.i64 (wV n), Value.int IntKind.i64 (hV n), Value.int IntKind.i64 ↑N, Value.int IntKind.i64 (fE n)], Value.pointer (some { block := w.heap.size, off := 0 }), Value.int IntKind.i64 n, Value.tuple #[Value.int IntKind.i64 (wV n), Value.int IntKind.i64 (hV n), Value.int IntKind.i64 ↑N, Value.int IntKind.i64 (fE n)], Value.int IntKind.i64 (wV n), Value.int IntKind.i64 (hV n), Value.int IntKind.i64 ↑N, Value.int IntKind.i64 (fE n), Value.bool false, Value.slice (some { block := b, off := o }) N c, Value.int IntKind.i64 ↑N, Value.int IntKind.i64 ↑N, Value.bool false, Value.bool (decide (k < 1) || decide (6 < k)), Value.int IntKind.i64 k, Value.bool (decide (k < 1)), Value.bool (decide (k < 1)), Value.int IntKind.i64 k, Value.bool (decide (6 < k)), Value.bool (decide (k < 1) || decide (6 < k)), Value.agg #[Value.int IntKind.i64 n, Value.int IntKind.i64 g, Value.int IntKind.i64 a], Value.int IntKind.i64 x, Value.int IntKind.i64 y, Value.int IntKind.i64 0, Value.int IntKind.i64 0, Value.bool false, undef, Value.slice (some { block := b, off := o }) N c, Value.int IntKind.i64 (wV n), Value.int IntKind.i64 (hV n), Value.agg (plV n b o c), Value.int IntKind.i64 k, Value.int IntKind.i64 (k - 4), Value.int IntKind.i64 (k - 4), Value.agg #[Value.slice (some { block := b, off := o + D }) m c', Value.int IntKind.i64 W, Value.int IntKind.i64 H], Value.int IntKind.i64 k, Value.bool true, Value.int IntKind.i64 X, Value.int IntKind.i64 A12, Value.int IntKind.i64 Y, Value.int IntKind.i64 A13, Value.int IntKind.i64 x, Value.int IntKind.i64 xh, Value.int IntKind.i64 y, Value.int IntKind.i64 yh, undef, undef, undef, undef, undef, undef, undef, undef, undef, undef, undef, undef, Value.func (Fn.func 133) #[] #[], .int .i64 ((v : Nat) : Int), undef, undef, undef, undef, undef, undef, undef, undef, undef, undef, undef, undef, undef, undef, undef, undef, undef, undef, undef, undef, undef, undef, undef, undef, undef, undef, undef, undef, undef, undef, undef, undef, undef], defers := [] })
    (fun _ _ _ _ _ _ hs _ _ => hs)
    ?assign ?body ?done ?stop
  case assign =>
    rintro l pre v W1 K h hK
    gi_wp2
    exact hK _ _ (KeepsFrom.refl _ _) trivial h rfl
  case body =>
    rintro l pre v a' W1 hl ⟨r, hr⟩ ⟨⟨v1, hv, hrow, _⟩, hG⟩ rfl hlt
    have bx8 := fun (W2 : World) (h : W0.grownBy W2 (some g21)) => (B8.out.kept h (by simp; omega)).cell
    have bx9 := fun (W2 : World) (h : W0.grownBy W2 (some g21)) => (B9.out.kept h (by simp; omega)).cell
    have bx12 := fun (W2 : World) (h : W0.grownBy W2 (some g21)) => (B12.out.kept h (by simp; omega)).cell
    have bx13 := fun (W2 : World) (h : W0.grownBy W2 (some g21)) => (B13.out.kept h (by simp; omega)).cell
    have bx20 := fun (W2 : World) (h : W0.grownBy W2 (some g21)) => cells3 ((h.block w4.heap.size (by omega) (by simp; omega)).trans B20.out)
    have bxI := fun (W2 : World) (h : W0.grownBy W2 (some g21)) => ints_grown INS.out h (by have := Hb.out; have := z1; have := z3; have := z4; omega)
    have HX8 := Lib.hid bx8
    have HX9 := Lib.hid bx9
    have HX12 := Lib.hid bx12
    have HX13 := Lib.hid bx13
    have HX20 := Lib.hid bx20
    have HXI := Lib.hid bxI
    clear bx8 bx9 bx12 bx13 bx20 bxI
    have v8 : (v : Nat) < 8 := v.2
    have e1 : IntKind.i64.wrap (A12 + xh) = (px : Int) := by rw [hpx]; exact IntWalk.i64_in _ (by omega)
    have e2 : IntKind.i64.wrap (A13 + yh) = (py : Int) := by rw [hpy]; exact IntWalk.i64_in _ (by omega)
    have e4 : IntKind.i64.wrap ((py : Int) + ((v : Nat) : Int)) = (py : Int) + ((v : Nat) : Int) := by exact IntWalk.i64_in _ (by omega)
    have HR := Lib.hid hrow
    have HV := Lib.hid hv
    have HG := Lib.hid hG
    clear hrow hv hG hpx hpy
    gi_wp2
    gi_loopw [97] (fun i wr => ∃ u : Nat, u ≤ 8 ∧ i = .int .i64 u ∧ (∃ v2, Boxed wr g21 30 v2 ∧ wr.ownsRow W0.heap.size 5 1 v2 (8 * pre.length + u) (pixRows f D px py W pre ++ pixRow f D px py W v.val u)) ∧ W0.grownBy wr (some g21) ∧ KeepsFrom W0.heap.size W1 wr) (fun i _ => 8 - (intOf i).toNat)
    case atStart => exact ⟨0, by omega, rfl, ⟨v1, HV.out, by simpa [pixRow] using HR.out⟩, HG.out, KeepsFrom.refl _ _⟩
    case round =>
      obtain ⟨u, hu, rfl, ⟨v2, hv2, hr2⟩, hG2, hK2⟩ := hrel
      have HV2 := Lib.hid hv2
      have HR2 := Lib.hid hr2
      have HG2 := Lib.hid hG2
      have HK2 := Lib.hid hK2
      clear hv2 hr2 hG2 hK2
      by_cases h8 : u < 8
      · have c8 := HX8.out wr HG2.out
        have c9 := HX9.out wr HG2.out
        have c12 := HX12.out wr HG2.out
        have c13 := HX13.out wr HG2.out
        obtain ⟨c20, c21, c22⟩ := HX20.out wr HG2.out
        have e3 : IntKind.i64.wrap ((px : Int) + (u : Int)) = (px : Int) + (u : Int) := by exact IntWalk.i64_in _ (by omega)
        have ub : (u : Int) < 8 := by omega
        gi_wp2_with (refine ⟨trivial, ?_⟩; gi_at_call 87; refine (CallsIn.inRound l (callsIn_wide.2 (in_any _ _ _ _ rfl W H _ _ _))).mono ?_; rintro e w' ⟨rfl, rfl⟩; rw [INP.out u v.val h8 v8])
        obtain ⟨W2, hW2⟩ : ∃ W2, wr.alloc (.cells #[.slice (some ⟨b, o + D, none⟩) m c', .int .i64 W, .int .i64 H] 119) = W2 := ⟨_, rfl⟩
        have HG3 : Hid (W0.grownBy W2 (some g21)) := Lib.hid (by rw [← hW2]; exact grown_more HG2.out (World.grownBy_alloc wr _ none) (fun _ e => by cases e))
        have HK3 : Hid (KeepsFrom W0.heap.size W1 W2) := Lib.hid (by rw [← hW2]; exact HK2.out.trans ((KeepsOthers.alloc wr _).from _))
        have HV3 : Hid (Boxed W2 g21 30 v2) := Lib.hid (by rw [← hW2]; exact HV2.out.alloc _)
        have HR3 : Hid (W2.ownsRow W0.heap.size 5 1 v2 (8 * pre.length + u) (pixRows f D px py W pre ++ pixRow f D px py W v.val u)) := Lib.hid (by rw [← hW2]; exact HR2.out.alloc _)
        rw [hW2]
        clear hW2 c8 c9 c12 c13 c20 c21 c22 HV2 HR2 HG2 HK2
        have p8 := Past.cell (HX8.out W2 HG3.out)
        have p9 := Past.cell (HX9.out W2 HG3.out)
        have p12 := Past.cell (HX12.out W2 HG3.out)
        have p13 := Past.cell (HX13.out W2 HG3.out)
        have p20 := Past.cell (HX20.out W2 HG3.out).1
        have p201 := Past.cell (HX20.out W2 HG3.out).2.1
        have p202 := Past.cell (HX20.out W2 HG3.out).2.2
        have p21 := Past.cell HV3.out.cell
        obtain ⟨p, hp, hpm, hps⟩ := PIX.out u v.val h8 v8
        have AT : ∀ x : Past W2, Calls Tryz.prog 91 #[.agg #[.slice (some ⟨b, o + D, none⟩) m c', .int .i64 W, .int .i64 H], .int .i64 ((px : Int) + (u : Int)), .int .i64 ((py : Int) + ((v : Nat) : Int))] x.now fun e w' => e = .returned (.int .u8 (pixS f D px py W v u)) ∧ Below x.now.heap.size x.now w' := fun x2 => by
          have h1 := at_any b (o + D) m c' (fun i => f (D + i)) W H (px + u) (py + v) p hp hpm hW0 (by omega) x2.now ((HXI.out W2 HG3.out).below x2.kept (HXI.out W2 HG3.out |>.lt (by omega)))
          rw [Int.natCast_add, Int.natCast_add] at h1
          refine h1.mono ?_
          rintro e w' ⟨rfl, rfl⟩
          exact ⟨by rw [hps], (Below.refl _ _).alloc (Nat.le_refl _) _⟩
        clear hp hpm hps
        refine regionIn_float_round (v := v2) 13 (by kernel_rfl) (by kernel_rfl) rfl rfl rfl (Or.inl ⟨rfl, fun w' ⟨x2, hx2⟩ => by subst hx2; go_simp⟩) ?_
        simp only [List.take_succ_cons, List.take_zero, List.drop_succ_cons, List.drop_zero]
        simp only [Act.put, List.setIfInBounds_toArray, List.set_cons_zero, List.set_cons_succ]
        repeat (go_big_quiet_step ((go_at_call 91; exact past_call (AT _))))
        refine wpQuiet_nil ?_
        rintro w5 ⟨⟨_, h5⟩, rfl⟩
        have HR5 := own_past HR3.out h5
        have HV5 : Boxed w5 g21 30 v2 := HV3.out.kept (grown_of_below h5 none) (by simp)
        have HG5 := Lib.hid (grown_more HG3.out (grown_of_below h5 none) (fun _ e => by cases e))
        have HK5 := Lib.hid (HK3.out.trans (KeepsFrom.of_grownBy (grown_of_below h5 none) (fun _ e => by cases e)))
        obtain ⟨i0, hi0, hz0, hz1, hz2⟩ := info_parts info_u8
        have bk : 8 * pre.length + u + 1 ≤ maxLen := Nat.le_trans (show _ ≤ 64 by omega) (by decide)
        refine ⟨fun _ _ => trivial, ?_⟩
        go_simp
        refine ⟨⟨⟨_, h5.alloc h5.size _⟩, rfl⟩, ?_⟩
        have sz5 := HG5.out.size
        clear p8 p9 p12 p13 p20 p201 p202 p21 AT
        gi_wp2_with (gi_at_builtin; refine wpListIn_append_own _ rfl _ _ 30 rfl W0.heap.size 5 i0 (.int .u8 0) 1 1 Tryz.underlying30 hi0 hz0 hz1 hz2 rfl (by decide) v2 _ _ rfl (HR5.alloc _) ⟨w5.heap.size, 0, none⟩ 1 1 [.int .u8 (pixS f D px py W v u)] rfl rfl (cell_one_new _ _ _) (by simp [Value.oneCell']) bk (by omega) (by simp; omega) ?_; intro v3 w6 hown hgr _; obtain ⟨g3, cap3, rfl⟩ := ownsRow_succ hown; obtain ⟨hv1, hv2, _, hk2, _⟩ := HV5.appended (by decide) (own_base HR5) (Nat.zero_le _) (Nat.zero_le _) (own_base hown) hgr; have hc1 := hv1.cell; have hf1 := hv1.frozen; have HOWN := Lib.hid hown; have HGR := Lib.hid hgr; have HV6 := Lib.hid hv2; have HK6 := Lib.hid hk2; clear hown hgr hv2 hk2)
        simp only [onlyN]
        gi_wp2
        go_roundw
        case rel =>
          refine ⟨u + 1, by omega, by go_num, ⟨_, HV6.out, ?_⟩, ?_, ?_⟩
          · rw [pixRow_succ, ← List.append_assoc]
            exact HOWN.out.kept (grownBy_setCell' w6 g21 _) (.inr (hv1.not_row (by decide) HOWN.out).symm)
          · refine grown_more (grown_more (grown_more HG5.out (World.grownBy_alloc w5 _ none) (fun _ e => by cases e)) HGR.out (fun r e => .inl (own_ge HR5 r e))) (grownBy_setCell' w6 g21 _) (fun r e => .inr (by cases e; rfl))
          · exact HK5.out.trans (HK6.out.from _)
        case measure => simp [intOf]; omega
      · obtain rfl : u = 8 := by omega
        gi_wp2
        exact ⟨HK2.out, trivial, ⟨_, HV2.out, by rw [pixRows_snoc, List.length_append]; exact HR2.out, trivial⟩, HG2.out⟩
  case done =>
    rintro D2 ys W1 hD rfl ⟨⟨v1, hv, hrow, _⟩, hG⟩ hK
    have c21 := hv.cell
    have HB2 := HB.out.grown hG HB.out.size (fun q e => by have := HB.out.size; cases e; omega)
    have hrow2 := own_low HB.out.size hrow
    rw [pix_all, show 8 * (List.finRange 8).length = 64 from rfl, List.map_congr_left (g := fun i => Value.int .u8 (fetF f n g a k x y i)) (fun i hi => by rw [FF.out i (List.mem_range.1 hi)])] at hrow2
    have hrow3 := ownsRow_putObj hrow2 (.deferred none) hK rfl
    have HF := Lib.hid (Res.of_own (k := .u8) hrow3)
    have HB3 := Lib.hid (HB2.grown (grownBy_putObj' W1 D2 (.deferred none)) HB2.size (fun q e => by have := HB2.size; have := HB.out.size; cases e; omega))
    clear hrow hrow2 hrow3 hv hG HB2
    gi_wp2
    go_wp2_with fail
    try (simp only [Exit.noGoto])
    refine ⟨by simp, .inl ⟨_, _, rfl, run_takeDeferred hK, ?_⟩⟩
    exact ⟨_, results_tmp2 rfl _ _ _, _, rfl, HF.out, HB3.out⟩
  case stop =>
    rintro D c pre W1 _ _ h _
    exact h.elim
end Mo
end Go.Proofs.YtbmglemjfodfhaaGreat
namespace Go.Proofs.YtbmglemjfodfhaaGreat
open Go.RowKit
namespace Mo
open Fr
def fetN (N n g a k x y : Int) : Nat := if fetE N n g a k x y = 0 then 64 else 0
theorem fetE_zero {N n g a k x y : Int} (h : fetE N n g a k x y = 0) : cE n g a = 0 ∧ N = zV n ∧ (1 ≤ k ∧ k ≤ 6) ∧ vE n g a x y = 0 := by
  unfold fetE at h
  by_cases h1 : cE n g a = 0
  · rw [if_neg (by omega)] at h
    by_cases h2 : N = zV n
    · rw [if_neg (by omega)] at h
      by_cases h3 : k < 1 ∨ 6 < k
      · rw [if_pos h3] at h; omega
      · rw [if_neg h3] at h; exact ⟨h1, h2, by omega, h⟩
    · rw [if_pos h2] at h; omega
  · rw [if_pos h1] at h; omega
theorem zV_pos {n : Int} (hn : n = 0 ∨ n = 1) : 0 < zV n := by rcases hn with rfl | rfl <;> decide
theorem Fetch_any (v : Value) (N : Nat) (f : Nat → Int) (n g a k x y : Int) (w : World) (hs : Sl .u8 w v N f) (hx : (Lit.int .i64 x).wf = true) (hy : (Lit.int .i64 y).wf = true) :
    Calls Tryz.prog 48 #[v, .agg #[.int .i64 n, .int .i64 g, .int .i64 a], .int .i64 k, .int .i64 x, .int .i64 y] w fun e w' => ∃ v', e = .returned (.tuple #[v', .int .i64 (fetE N n g a k x y)]) ∧ Res .u8 w.heap.size w' v' (fetN N n g a k x y) (fetF f n g a k x y) ∧ Below w.heap.size w w' := by
  have no : ∀ e w', fetE N n g a k x y ≠ 0 → (e = Ending.returned (.tuple #[.slice none 0 0, .int .i64 (fetE N n g a k x y)]) ∧ Below w.heap.size w w') →
      ∃ v', e = .returned (.tuple #[v', .int .i64 (fetE N n g a k x y)]) ∧ Res .u8 w.heap.size w' v' (fetN N n g a k x y) (fetF f n g a k x y) ∧ Below w.heap.size w w' := fun e w' h ⟨h1, h2⟩ =>
    ⟨_, h1, .inl ⟨by unfold fetN; rw [if_neg h], rfl⟩, h2⟩
  by_cases hc : cE n g a = 0
  · obtain ⟨o, c, rfl, h1, h2, h3⟩ := hs
    by_cases hN : (N : Int) = zV n
    · by_cases hk1 : k < 1
      · exact (fetch_no3a o N c n g a k x y w hc hN hk1).mono (fun e w' h => no e w' (fun h0 => by have := (fetE_zero h0).2.2.1; omega) h)
      · by_cases hk2 : 6 < k
        · exact (fetch_no3b o N c n g a k x y w hc hN hk2).mono (fun e w' h => no e w' (fun h0 => by have := (fetE_zero h0).2.2.1; omega) h)
        · by_cases hv : vE n g a x y = 0
          · have e0 : fetE N n g a k x y = 0 := by unfold fetE; rw [if_neg (by omega), if_neg (by omega), if_neg (by omega), hv]
            have eN : fetN N n g a k x y = 64 := by unfold fetN; rw [if_pos e0]
            have hp := zV_pos (cE_cases n g a hc).1
            rcases h3 with ⟨h0, _⟩ | ⟨b, oo, rfl, hb, hI⟩
            · omega
            · rw [e0, eN]
              by_cases hk : k ≤ 4
              · exact fetch_luma b oo N c f n g a k x y w hI hb h1 h2 hN (by omega) hv hx hy
              · exact fetch_chroma b oo N c f n g a k x y w hI hb h1 h2 hN (by omega) hv hx hy
          · exact (fetch_no4 o N c n g a k x y w hc hN (by omega) hx hy hv).mono (fun e w' h => no e w' (fun h0 => hv (fetE_zero h0).2.2.2) h)
    · exact (fetch_no2 o N c n g a k x y w hc hN).mono (fun e w' h => no e w' (fun h0 => hN (fetE_zero h0).2.1) h)
  · exact (fetch_no1 v n g a k x y N w hc).mono (fun e w' h => no e w' (fun h0 => hc (fetE_zero h0).1) h)
end Mo
end Go.Proofs.YtbmglemjfodfhaaGreat
namespace Go.Proofs.YtbmglemjfodfhaaGreat
open Go.RowKit
attribute [local go_sem] Oper.semAt_some
namespace Pa
open Mo
theorem rClip_any (n : Int) (w : World) : Calls Tryz.prog 114 #[.int .i64 n] w fun e w' => e = .returned (.int .u8 (clipF n)) ∧ w = w' := by
  have mn := fun w' => Lib.run_min_ints (P := Tryz.prog) w' #[3, 3] 3 .i64 .i64 (max n 0) 255
  have mx := fun w' => Lib.run_max_ints (P := Tryz.prog) w' #[3, 3] 3 .i64 .i64 n 0
  obtain ⟨m, hm⟩ : ∃ m, min (max n 0) 255 = m := ⟨_, rfl⟩
  have hb := clip_bd n
  have e0 : clipF n = m := by rw [← hm]; unfold clipF; omega
  have HM := Lib.hid e0
  have hb : 0 ≤ m ∧ m ≤ 255 := by rw [← e0]; exact hb
  simp only [hm] at mn
  clear hm e0
  go_enter Tryz.func114, Tryz.ntmps114
  go_wp2
  go_ret
  exact ⟨by rw [HM.out]; rfl, rfl⟩
theorem radd_no1 (a1 a2 : Option Addr) (N c1 M c2 : Nat) (g : Nat → Int) (w : World) (h : N ≠ 64) :
    Calls Tryz.prog 69 #[.slice a1 N c1, .slice a2 M c2] w fun e w' => e = .returned (.tuple #[.slice none 0 0, .int .i64 (addE N M g)]) ∧ w = w' := by
  have E : Hid (addE N M g = 2) := Lib.hid (by unfold addE; rw [if_pos (.inl h)])
  have t1 : ((N : Int) != 64) = true := by simp; omega
  clear h
  go_enter Tryz.func69, Tryz.ntmps69
  go_wp2_with fail
  go_ret2
  exact ⟨by rw [E.out]; rfl, rfl⟩
theorem radd_no2 (a1 a2 : Option Addr) (c1 M c2 : Nat) (g : Nat → Int) (w : World) (h : M ≠ 64) :
    Calls Tryz.prog 69 #[.slice a1 64 c1, .slice a2 M c2] w fun e w' => e = .returned (.tuple #[.slice none 0 0, .int .i64 (addE 64 M g)]) ∧ w = w' := by
  have E : Hid (addE 64 M g = 2) := Lib.hid (by unfold addE; rw [if_pos (.inr h)])
  have t1 : ((M : Int) != 64) = true := by simp; omega
  clear h
  go_enter Tryz.func69, Tryz.ntmps69
  go_wp2_with fail
  go_ret2
  exact ⟨by rw [E.out]; rfl, rfl⟩
set_option maxRecDepth 100000 in
theorem radd_yes (b1 o1 c1 b2 o2 c2 : Nat) (f g : Nat → Int) (w : World) (h1 : Ints w .u8 b1 o1 64 f) (h2 : Ints w .i64 b2 o2 64 g) (bf : ∀ i, i < 64 → 0 ≤ f i ∧ f i ≤ 255) :
    Calls Tryz.prog 69 #[.slice (some ⟨b1, o1, none⟩) 64 c1, .slice (some ⟨b2, o2, none⟩) 64 c2] w fun e w' => ∃ v, e = .returned (.tuple #[v, .int .i64 (addE 64 64 g)]) ∧ Res .u8 w.heap.size w' v (addN 64 64 g) (addF f g) ∧ Below w.heap.size w w' := by
  obtain ⟨i0, hi, hz0, hz1, hz2⟩ := info_parts info_byte
  have H1 := Lib.hid h1
  have H2 := Lib.hid h2
  have BF := Lib.hid bf
  clear h1 h2 bf
  refine (callsIn_wide (n := 12)).1 ?_
  refine callsIn_of_wp Tryz.func69 rfl trivial ?_ rfl
  simp only [Tryz.ntmps69, List.size_toArray, List.length_cons, List.length_nil, Nat.reduceAdd, Nat.reduceSub, Array.replicate_succ, Array.replicate_zero, List.push_toArray, List.append_toArray, List.nil_append, List.cons_append]
  gi_wp2
  gi_loopw [6, 7] (fun v i wr => ∃ k : Nat, k ≤ 64 ∧ i = .int .i64 k ∧ okR g k ∧ wr.ownsRow w.heap.size 5 1 v k ((List.range k).map fun j => .int .u8 (addF f g j)) ∧ Below w.heap.size w wr) (fun _ i _ => 64 - (intOf i).toNat)
  case atStart => exact ⟨0, by omega, rfl, fun i hi => by omega, World.ownsRow_nil _ _ _ _, Below.refl _ _⟩
  case round =>
    obtain ⟨k, hk, rfl, hok, hown, hB⟩ := hrel
    have OK := Lib.hid hok
    have OWN := Lib.hid hown
    have HB := Lib.hid hB
    have sz := hB.size
    clear hok hown hB
    by_cases hkn : k < 64
    · have e1 := (H1.out.below HB.out (H1.out.lt (by omega))) k hkn
      have e2 := (H2.out.below HB.out (H2.out.lt (by omega))) k hkn
      have bf := BF.out k hkn
      have b1 : (0 : Int) ≤ (k : Int) ∧ (k : Int) < 64 := by omega
      by_cases l1 : g k < -1048576
      · have E : Hid (addE 64 64 g = 3) := Lib.hid (by unfold addE; rw [if_neg (by omega), if_neg (fun h => by have := h k hkn; omega)])
        gi_wp2
        go_ret2
        exact ⟨_, by rw [E.out]; rfl, .inl ⟨by unfold addN; rw [E.out]; rfl, rfl⟩, HB.out⟩
      · by_cases l2 : 1048576 < g k
        · have E : Hid (addE 64 64 g = 3) := Lib.hid (by unfold addE; rw [if_neg (by omega), if_neg (fun h => by have := h k hkn; omega)])
          gi_wp2
          go_ret2
          exact ⟨_, by rw [E.out]; rfl, .inl ⟨by unfold addN; rw [E.out]; rfl, rfl⟩, HB.out⟩
        · have OK2 : Hid (okR g (k + 1)) := Lib.hid (fun i hi => by
            by_cases e : i = k
            · subst e; omega
            · exact OK.out i (by omega))
          obtain ⟨y, hy⟩ : ∃ y, f k + g k = y := ⟨_, rfl⟩
          obtain ⟨x, hx⟩ : ∃ x, clipF y = x := ⟨_, rfl⟩
          have HX : Hid (addF f g k = x) := Lib.hid (by unfold addF; rw [hy, hx])
          have wy : IntKind.i64.wrap (f k + g k) = y := by rw [hy]; exact IntWalk.i64_in _ (by omega)
          have wx : IntKind.i64.wrap (f k) = f k := IntWalk.i64_in _ (by omega)
          have CL : ∀ w, Calls Tryz.prog 114 #[.int .i64 y] w fun e w' => e = .returned (.int .u8 x) ∧ w = w' := fun w => by rw [← hx]; exact rClip_any y w
          have dk : decide ((k : Int) < 64) = true := by simp; omega
          clear hx hy
          gi_wp2
          have p1 := Past.cell e1
          have p2 := Past.cell e2
          refine regionIn_float (v := u6) 12 (by kernel_rfl) (by kernel_rfl) rfl rfl rfl (Or.inl ⟨rfl, fun w' ⟨x2, hx2⟩ => by subst hx2; go_simp⟩) ?_
          simp only [List.take_succ_cons, List.take_zero, List.drop_succ_cons, List.drop_zero]
          simp only [Act.put, List.setIfInBounds_toArray, List.set_cons_zero, List.set_cons_succ]
          repeat (go_big_quiet_step ((go_at_call 114; exact past_call ((CL _).mono fun _ _ ⟨h1, h2⟩ => ⟨h1, by subst h2; exact Below.refl _ _⟩))))
          refine wpQuiet_nil ?_
          rintro wd ⟨⟨_, h5⟩, rfl⟩
          rename_i wd
          refine ⟨fun _ _ => trivial, ?_⟩
          go_simp
          refine ⟨⟨⟨_, h5.alloc h5.size _⟩, rfl⟩, ?_⟩
          have OWd : Hid (wd.ownsRow w.heap.size 5 1 u6 k ((List.range k).map fun j => .int .u8 (addF f g j))) := Lib.hid (own_past OWN.out h5)
          have HBd : Hid (Below w.heap.size w wd) := Lib.hid (HB.out.trans (h5.mono sz))
          have szd : w.heap.size ≤ wd.heap.size := HBd.out.size
          clear CL wy wx p1 p2 h5
          gi_wp2_with (gi_at_builtin; refine wpListIn_append_own _ rfl _ _ 30 rfl w.heap.size 5 i0 (.int .u8 0) 1 1 Tryz.underlying30 hi hz0 hz1 hz2 rfl (by decide) u6 _ _ rfl (OWd.out.alloc _) ⟨wd.heap.size, 0, none⟩ 1 1 [.int .u8 x] rfl rfl (cell_one_new _ _ _) (by simp [Value.oneCell']) (by unfold maxLen; omega) (by omega) (by simp; omega) ?_; intro v' w1 hown2 hgr hnil)
          simp only [onlyN]
          have hB1 : Below w.heap.size w w1 := (HBd.out.alloc szd (.cells #[.int .u8 x] 5)).grown hgr (by simp; omega) (fun q hq => (OWd.out.lt q hq).1)
          have hown3 : w1.ownsRow w.heap.size 5 1 v' (k + 1) ((List.range (k + 1)).map fun j => .int .u8 (addF f g j)) := by rw [← range_snoc, HX.out]; exact hown2
          have OW3 := Lib.hid hown3
          have HB1 := Lib.hid hB1
          clear hown2 hgr hnil hown3 hB1
          gi_wp2
          go_roundw
          case rel => exact ⟨k + 1, by omega, by go_num, OK2.out, OW3.out, HB1.out⟩
          case measure => simp [intOf]; omega
    · obtain rfl : k = 64 := by omega
      have E : Hid (addE 64 64 g = 0) := Lib.hid (by unfold addE; rw [if_neg (by omega), if_pos OK.out])
      gi_wp2
      go_ret2
      exact ⟨_, by rw [E.out]; rfl, by unfold addN; rw [E.out, if_pos rfl]; exact Res.of_own OWN.out, HB.out⟩
theorem rAdd_any (va vb : Value) (N M : Nat) (f g : Nat → Int) (w : World) (h1 : Sl .u8 w va N f) (h2 : Sl .i64 w vb M g) (bf : ∀ i, i < N → 0 ≤ f i ∧ f i ≤ 255) :
    Calls Tryz.prog 69 #[va, vb] w fun e w' => ∃ v, e = .returned (.tuple #[v, .int .i64 (addE N M g)]) ∧ Res .u8 w.heap.size w' v (addN N M g) (addF f g) ∧ Below w.heap.size w w' := by
  obtain ⟨a1, c1, rfl, _, _, d1⟩ := h1
  obtain ⟨a2, c2, rfl, _, _, d2⟩ := h2
  by_cases hN : N = 64
  · by_cases hM : M = 64
    · subst hN hM
      rcases d1 with ⟨h0, _⟩ | ⟨b1, o1, rfl, _, i1⟩
      · omega
      · rcases d2 with ⟨h0, _⟩ | ⟨b2, o2, rfl, _, i2⟩
        · omega
        · exact radd_yes _ _ _ _ _ _ _ _ _ i1 i2 bf
    · subst hN
      refine (radd_no2 a1 a2 c1 M c2 g w hM).mono ?_
      rintro e w' ⟨rfl, rfl⟩
      exact ⟨_, rfl, .inl ⟨by unfold addN; rw [show addE 64 M g = 2 by unfold addE; rw [if_pos (.inr hM)]]; rfl, rfl⟩, Below.refl _ _⟩
  · refine (radd_no1 a1 a2 N c1 M c2 g w hN).mono ?_
    rintro e w' ⟨rfl, rfl⟩
    exact ⟨_, rfl, .inl ⟨by unfold addN; rw [show addE N M g = 2 by unfold addE; rw [if_pos (.inl hN)]]; rfl, rfl⟩, Below.refl _ _⟩
set_option maxRecDepth 100000 in
theorem rFlat_any (vb : Value) (M : Nat) (g : Nat → Int) (w : World) (h2 : Sl .i64 w vb M g) :
    Calls Tryz.prog 68 #[vb] w fun e w' => ∃ v, e = .returned (.tuple #[v, .int .i64 (addE 64 M g)]) ∧ Res .u8 w.heap.size w' v (addN 64 M g) (addF (fun _ => 0) g) ∧ Below w.heap.size w w' := by
  have H2 := Lib.hid h2
  obtain ⟨a2, c2, rfl, _, _, _⟩ := h2
  obtain ⟨i0, hi, hz0, hz1, hz2⟩ := info_parts info_byte
  go_enter Tryz.func68, Tryz.ntmps68
  go_wp2_with (first
    | (refine wpList_make_full w rfl _ _ 30 rfl w.heap.size 5 i0 (.int .u8 0) 1 Tryz.underlying30 hi hz0 hz1 .i64 .i64 _ _ 64 rfl rfl rfl rfl (by rw [hz2]; omega) (by unfold maxLen; omega) (Nat.le_refl _) ?_; intro w1 hown hgr; have HA := Lib.hid (made_sl hown); have HB := Lib.hid ((Below.refl w.heap.size w).grown hgr (Nat.le_refl _) (fun _ e => by cases e)); clear hown hgr)
    | (go_at_call 69; refine (rAdd_any _ _ 64 M (fun _ => 0) g _ HA.out.sl (H2.out.below HB.out) (fun _ _ => by omega)).mono ?_; rintro e w2 ⟨v, rfl, hR, hB⟩; have HR := Lib.hid hR; have HC := Lib.hid (HB.out.trans (hB.mono HB.out.size)); have sz := HB.out.size; clear hR hB))
  go_ret2
  refine ⟨_, rfl, ?_, HC.out⟩
  have := HR.out
  rcases this with h | ⟨g', c, h1, h2, h3⟩
  · exact .inl h
  · exact .inr ⟨g', c, h1, by omega, h3⟩
end Pa
end Go.Proofs.YtbmglemjfodfhaaGreat
namespace Go.Proofs.YtbmglemjfodfhaaGreat
open Go.RowKit Go.Shelf
namespace Pa
open Fr Pt
theorem made_arr {w : World} {base g N : Nat} {e : TypeId} {k : IntKind} (h : w.ownsRow base e 1 (.slice (some ⟨g, 0, none⟩) N N) N (madeCells (Value.int k 0).cells (N * 1)).toList) : Arr w k g N (fun _ => 0) := by
  have hc := fun j u hu => World.ownsRow.cells h (g := g) rfl j u hu
  rcases h.2 with ⟨h0, _⟩ | ⟨g', cap, cur, h1, h2, h3, h4⟩
  · cases h0
  · cases h1
    intro i hi
    have h5 := hc i (.int k 0) (by simp [madeCells, Value.cells, hi, Nat.mod_one])
    rw [show (⟨g, 0, none⟩ : Addr).add i = ⟨g, i, none⟩ by unfold Addr.add; split <;> simp_all] at h5
    exact ⟨h5, frozen_of_row h3 i⟩
end Pa
end Go.Proofs.YtbmglemjfodfhaaGreat
