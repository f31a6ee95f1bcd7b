/- motion: Fetch, where all fits. -/
import Derived.Test.YtkeempljogjceaaMo4
import Derived.BigQuiet
import Derived.Test.YtkeempljogjceaaScopeIn
import Derived.Test.YtkeempljogjceaaRegSt
import Derived.BigRegion
import Derived.Scope
namespace Go.Proofs.Ytkeempljogjceaa
open Go.RowKit Go.Shelf
attribute [local go_sem] Oper.semAt_some
namespace Mo
open Fr

/-- the three planes of a picture. -/
def plV (n : Int) (b o c : Nat) : Array Value :=
  if n = 1 then #[.slice (some ⟨b, o, none⟩) 101376 c, .int .i64 352, .int .i64 288, .slice (some ⟨b, o + 101376, none⟩) 25344 (c - 101376), .int .i64 176, .int .i64 144, .slice (some ⟨b, o + 126720, none⟩) 25344 (c - 126720), .int .i64 176, .int .i64 144]
  else #[.slice (some ⟨b, o, none⟩) 25344 c, .int .i64 176, .int .i64 144, .slice (some ⟨b, o + 25344, none⟩) 6336 (c - 25344), .int .i64 88, .int .i64 72, .slice (some ⟨b, o + 31680, none⟩) 6336 (c - 31680), .int .i64 88, .int .i64 72]
theorem planes_any (n : Int) (hn : n = 0 ∨ n = 1) (N b o c : Nat) (hN : (N : Int) = zV n) (hc : N ≤ c) (w : World) : Calls Try.prog 46 #[.slice (some ⟨b, o, none⟩) N c, .int .i64 (wV n), .int .i64 (hV n)] w fun e w' => e = .returned (.agg (plV n b o c)) ∧ Below w.heap.size w w' := by
  rcases hn with rfl | rfl
  · obtain rfl : N = 38016 := by rw [show zV 0 = 38016 from rfl] at hN; omega
    exact planes_0 b o c hc w
  · obtain rfl : N = 152064 := by rw [show zV 1 = 152064 from rfl] at hN; omega
    exact planes_1 b o c hc w
theorem run_index_struct {P : Program} (w : World) {cs : Array Value} {m q : Nat} {ty e : TypeId} {fs : Array Field} (hu : P.underlying ty = some (.array m e)) (he : P.underlying e = some (.struct fs)) (hi : (P.info? e).map (·.size) = some q) (kk : IntKind) (j : Nat) (J : Int) (hJ : J = j) (hj : j < m) {ds : Array Value} (hds : cs.extract (j * q) (j * q + q) = ds) :
    (Instr.index ty (.agg cs) (.int kk J)).run P w = .ok (.agg ds) w := by
  subst hJ hds
  obtain ⟨i, hi, hs⟩ := info_size hi
  have hagg : (isAgg e).run P w = .ok true w := by
    unfold isAgg
    rw [Sem.run_bind, run_underlying he w]
    rfl
  have hz : (sizeOf e).run P w = .ok q w := by simp [sizeOf, typeInfo, hi, hs]
  have hp : (part e cs (j * q)).run P w = .ok (.agg (cs.extract (j * q) (j * q + q))) w := by
    unfold part
    rw [Sem.run_bind, hagg]
    simp [hz]
  simp only [Instr.index, asIntOf, Sem.run_bind, Sem.run_pure, Result.andThen_ok, run_underlying hu w]
  rw [if_pos (by omega)]
  simp only [Sem.run_bind, hz, Result.andThen_ok, Int.toNat_natCast, hp]
/-- the plane of a block. -/
theorem plane_at (n k : Int) (hn : n = 0 ∨ n = 1) (hk : 1 ≤ k ∧ k ≤ 6) (b o c : Nat) : ∃ D m c' : Nat, (D : Int) = pD n k ∧ (m : Int) = pW n k * pH n k ∧ ∀ w, (Instr.index 71 (.agg (plV n b o c)) (.int .i64 (max 0 (k - 4)))).run Try.prog w = .ok (.agg #[.slice (some ⟨b, o + D, none⟩) m c', .int .i64 (pW n k), .int .i64 (pH n k)]) w := by
  have : k = 1 ∨ k = 2 ∨ k = 3 ∨ k = 4 ∨ k = 5 ∨ k = 6 := by omega
  rcases hn with rfl | rfl
  · rcases this with rfl | rfl | rfl | rfl | rfl | rfl
    iterate 4 exact ⟨0, 25344, c, rfl, rfl, fun w => run_index_struct (q := 3) w Try.underlying71 Try.underlying70 (by kernel_rfl) .i64 0 _ rfl (by omega) rfl⟩
    · exact ⟨25344, 6336, c - 25344, rfl, rfl, fun w => run_index_struct (q := 3) w Try.underlying71 Try.underlying70 (by kernel_rfl) .i64 1 _ rfl (by omega) rfl⟩
    · exact ⟨31680, 6336, c - 31680, rfl, rfl, fun w => run_index_struct (q := 3) w Try.underlying71 Try.underlying70 (by kernel_rfl) .i64 2 _ rfl (by omega) rfl⟩
  · rcases this with rfl | rfl | rfl | rfl | rfl | rfl
    iterate 4 exact ⟨0, 101376, c, rfl, rfl, fun w => run_index_struct (q := 3) w Try.underlying71 Try.underlying70 (by kernel_rfl) .i64 0 _ rfl (by omega) rfl⟩
    · exact ⟨101376, 25344, c - 101376, rfl, rfl, fun w => run_index_struct (q := 3) w Try.underlying71 Try.underlying70 (by kernel_rfl) .i64 1 _ rfl (by omega) rfl⟩
    · exact ⟨126720, 25344, c - 126720, rfl, rfl, fun w => run_index_struct (q := 3) w Try.underlying71 Try.underlying70 (by kernel_rfl) .i64 2 _ rfl (by omega) rfl⟩
theorem Boxed.froz2 {w : World} {B : Nat} {t : TypeId} {v : Value} (h : Boxed w B t v) : ∀ o1, (w.alloc o1).frozen? ⟨B, 0, none⟩ = false := fun o1 => (h.alloc o1).frozen
theorem Boxed.cell2 {w : World} {B : Nat} {t : TypeId} {v : Value} (h : Boxed w B t v) : ∀ o1, (w.alloc o1).cell? ⟨B, 0, none⟩ = some v := fun o1 => (h.alloc o1).cell

theorem boxes2 (w w' : World) {v1 v2 : Value} {t1 t2 : TypeId} (o1 o2 : Obj) (hB : Below ((w.alloc o1).alloc o2).heap.size ((w.alloc o1).alloc o2) w') (e1 : o1 = .cells #[v1] t1 (0, 0) := by rfl) (e2 : o2 = .cells #[v2] t2 (0, 0) := by rfl) :
    Boxed w' w.heap.size t1 v1 ∧ Boxed w' (w.heap.size + 1) t2 v2 := by
  subst e1 e2
  have b1 := ((Boxed.new w t1 v1).alloc (.cells #[v2] t2)).kept (grown_of_below hB none) (by simp)
  have b2 := (Boxed.new (w.alloc (.cells #[v1] t1)) t2 v2).kept (grown_of_below hB none) (by simp)
  rw [World.size_alloc] at b2
  exact ⟨b1, b2⟩


/-- the worlds at three stages: as it is; a cell stored; another one. -/
def st3 (w : World) (p q : Addr) (u v : Value) : Nat → World
  | 0 => w.drew
  | 1 => w.drew.setCell p u
  | _ => (w.drew.setCell p u).setCell q v
theorem st3_q {w : World} {p q : Addr} {u v x : Value} (h : w.cell? q = some x) (hp : p ≠ q) : ∀ t, t ≤ 1 → (st3 w p q u v t).cell? q = some x
  | 0, _ => h
  | 1, _ => (World.cell?_setCell_other _ _ _ _ hp).trans h
  | _ + 2, h => absurd h (by omega)
theorem st3_fq {w : World} {p q : Addr} {u v : Value} (h : w.frozen? q = false) : ∀ t, (st3 w p q u v t).frozen? q = false
  | 0 => h
  | 1 => (World.frozen?_setCell _ _ _ _).trans h
  | _ + 2 => (World.frozen?_setCell _ _ _ _).trans ((World.frozen?_setCell _ _ _ _).trans h)

theorem ownFrom_grown {β : Type} {B : Nat} {w : World} (row : Option Nat) (hB : w.heap.size ≤ B) : OwnFrom B (fun (_ : β) W => w.grownBy W row) :=
  fun _ _ _ _ hs hw hr => ⟨hw.os.trans hs.os, hw.tape.trans hs.tape, hw.output.trans hs.output, Nat.le_trans hs.size hw.size,
    fun i hi hne => (hw.block i (Nat.lt_of_lt_of_le hi hs.size) (fun e => by have := (hr i e.symm).1; omega)).trans (hs.block i hi hne)⟩
/-- the u-th sample of row v of a block that is fetched. -/
def pixS (f : Nat → Int) (D px py : Nat) (W : Int) (v u : Nat) : Int := f (D + (((py + v : Nat) : Int) * W + ((px + u : Nat) : Int)).toNat)
def pixRow (f : Nat → Int) (D px py : Nat) (W : Int) (v k : Nat) : List Value := (List.range k).map fun u => .int .u8 (pixS f D px py W v u)
def pixRows (f : Nat → Int) (D px py : Nat) (W : Int) (pre : List (Fin 8)) : List Value := pre.flatMap fun v => pixRow f D px py W v.val 8
theorem pix {f : Nat → Int} {D px py m : Nat} {W H : Int} (hm : (m : Int) = W * H) (hW : 0 ≤ W) (hx : (px : Int) + 8 ≤ W) (hy : (py : Int) + 8 ≤ H) :
    ∀ u v : Nat, u < 8 → v < 8 → ∃ p : Nat, ((py + v : Nat) : Int) * W + ((px + u : Nat) : Int) = (p : Int) ∧ p < m ∧ pixS f D px py W v u = f (D + p) := by
  intro u v hu hv
  have h1 : ((py + v : Nat) : Int) * W ≤ (H - 1) * W := Int.mul_le_mul_of_nonneg_right (by omega) hW
  have h2 : (H - 1) * W = W * H - W := by rw [Int.sub_mul, Int.mul_comm H W]; omega
  have h3 : 0 ≤ ((py + v : Nat) : Int) * W := Int.mul_nonneg (by omega) hW
  refine ⟨(((py + v : Nat) : Int) * W + ((px + u : Nat) : Int)).toNat, by omega, by omega, rfl⟩

theorem cells3 {w : World} {g : Nat} {x y z : Value} {t : TypeId} (h : w.heap[g]? = some (.cells #[x, y, z] t (0, 0))) : w.cell? ⟨g, 0, none⟩ = some x ∧ w.cell? ⟨g, 1, none⟩ = some y ∧ w.cell? ⟨g, 2, none⟩ = some z := by
  simp [World.cell?, h]
theorem ints_grown {W W' : World} {b o n g : Nat} {f : Nat → Int} (h : Ints W .u8 b o n f) (hg : W.grownBy W' (some g)) (hb : b < W.heap.size ∧ b ≠ g) : Ints W' .u8 b o n f :=
  fun i hi => (World.cell?_of_block (a := ⟨b, o + i, none⟩) (hg.block b hb.1 (fun e => hb.2 (Option.some.inj e)))).trans (h i hi)
theorem grown_more {W A B : World} {g : Nat} {row : Option Nat} (h : W.grownBy A (some g)) (k : A.grownBy B row) (hr : ∀ r, row = some r → W.heap.size ≤ r ∨ r = g) : W.grownBy B (some g) :=
  ⟨k.os.trans h.os, k.tape.trans h.tape, k.output.trans h.output, Nat.le_trans h.size k.size, fun i hi hne => (k.block i (Nat.lt_of_lt_of_le hi h.size) (fun e => by
    rcases hr i e.symm with h1 | h1
    · omega
    · exact hne (by rw [h1]))).trans (h.block i hi hne)⟩
theorem own_base {w : World} {base e size n : Nat} {v : Value} {xs : List Value} (h : w.ownsRow base e size v n xs) : w.ownsRow 0 e size v n xs :=
  ⟨h.1, h.2.imp id (fun ⟨g, cap, cur, h1, _, h3⟩ => ⟨g, cap, cur, h1, Nat.zero_le _, h3⟩)⟩
theorem own_ge {w : World} {base e size n : Nat} {v : Value} {xs : List Value} (h : w.ownsRow base e size v n xs) : ∀ r, v.ownBlock = some r → base ≤ r := by
  intro r hr
  rcases h.2 with ⟨rfl, _⟩ | ⟨g, cap, cur, rfl, h2, _⟩
  · cases hr
  · cases hr; exact h2
theorem own_past {w w' : World} {base e size n : Nat} {v : Value} {xs : List Value} (h : w.ownsRow base e size v n xs) (hB : Below w.heap.size w w') : w'.ownsRow base e size v n xs :=
  h.kept (grown_of_below hB none) (by cases hv : v.ownBlock <;> simp)
theorem pixRows_snoc (f : Nat → Int) (D px py : Nat) (W : Int) (pre : List (Fin 8)) (v : Fin 8) : pixRows f D px py W (pre ++ [v]) = pixRows f D px py W pre ++ pixRow f D px py W v.val 8 := by
  simp [pixRows]
theorem pixRow_succ (f : Nat → Int) (D px py : Nat) (W : Int) (v u : Nat) : pixRow f D px py W v (u + 1) = pixRow f D px py W v u ++ [.int .u8 (pixS f D px py W v u)] := by
  unfold pixRow; rw [List.range_succ, List.map_append]; rfl

theorem own_low {w : World} {B base e size n : Nat} {v : Value} {xs : List Value} (hb : B ≤ base) (h : w.ownsRow base e size v n xs) : w.ownsRow B e size v n xs :=
  ⟨h.1, h.2.imp id (fun ⟨g, cap, cur, h1, h2, h3⟩ => ⟨g, cap, cur, h1, Nat.le_trans hb h2, h3⟩)⟩
theorem pix_all (f : Nat → Int) (D px py : Nat) (W : Int) : pixRows f D px py W (List.finRange 8) = (List.range 64).map fun i => .int .u8 (pixS f D px py W (i / 8) (i % 8)) := by kernel_rfl
theorem pix_fet {f : Nat → Int} {D px py : Nat} {n g a k x y W : Int} (hD : (D : Int) = pD n k) (hW : pW n k = W) (hX : pX n g a k x = px) (hY : pY n g a k y = py) (h0 : 0 ≤ W) (i : Nat) :
    pixS f D px py W (i / 8) (i % 8) = fetF f n g a k x y i := by
  unfold pixS fetF
  rw [← hD, hW, hX, hY, ← Int.natCast_add]
  have h1 : 0 ≤ ((py + i / 8 : Nat) : Int) * W := Int.mul_nonneg (by omega) h0
  congr 1
  push_cast at *
  omega
theorem info_u8 : (Try.prog.info? 5).map (fun i => (i.zero, i.size, i.bytes)) = some (some (.int .u8 0), 1, 1) := by kernel_rfl
end Mo
end Go.Proofs.Ytkeempljogjceaa
