/- motion: Fetch, where all fits. | paint: the document's answer: numbers cut; samples and residues put together. -/
import Derived.Test.YtbmglemjfodfhaaGreatMgMo4
import Derived.Test.YtbmglemjfodfhaaGreatMgPa1
import Derived.Test.YtbmglemjfodfhaaGreatMgRegSt
import Derived.Test.YtbmglemjfodfhaaGreatScopeIn
import Derived.BigQuiet
import Derived.BigRegion
import Derived.LoopIn
import Derived.LoopNIn
import Derived.Scope
import Derived.TacticsInMore
set_option linter.unusedVariables false
set_option linter.unusedSimpArgs false

namespace Go.Proofs.YtbmglemjfodfhaaGreat
open Go.RowKit Go.Shelf
attribute [local go_sem] Oper.semAt_some
namespace Mo
open Fr

/-- the three planes of a picture. -/
def plV (n : Int) (b o c : Nat) : Array Value :=
  if n = 1 then #[.slice (some ⟨b, o, none⟩) 101376 c, .int .i64 352, .int .i64 288, .slice (some ⟨b, o + 101376, none⟩) 25344 (c - 101376), .int .i64 176, .int .i64 144, .slice (some ⟨b, o + 126720, none⟩) 25344 (c - 126720), .int .i64 176, .int .i64 144]
  else #[.slice (some ⟨b, o, none⟩) 25344 c, .int .i64 176, .int .i64 144, .slice (some ⟨b, o + 25344, none⟩) 6336 (c - 25344), .int .i64 88, .int .i64 72, .slice (some ⟨b, o + 31680, none⟩) 6336 (c - 31680), .int .i64 88, .int .i64 72]
theorem planes_any (n : Int) (hn : n = 0 ∨ n = 1) (N b o c : Nat) (hN : (N : Int) = zV n) (hc : N ≤ c) (w : World) : Calls Tryz.prog 88 #[.slice (some ⟨b, o, none⟩) N c, .int .i64 (wV n), .int .i64 (hV n)] w fun e w' => e = .returned (.agg (plV n b o c)) ∧ Below w.heap.size w w' := by
  rcases hn with rfl | rfl
  · obtain rfl : N = 38016 := by rw [show zV 0 = 38016 from rfl] at hN; omega
    exact planes_0 b o c hc w
  · obtain rfl : N = 152064 := by rw [show zV 1 = 152064 from rfl] at hN; omega
    exact planes_1 b o c hc w
theorem run_index_struct {P : Program} (w : World) {cs : Array Value} {m q : Nat} {ty e : TypeId} {fs : Array Field} (hu : P.underlying ty = some (.array m e)) (he : P.underlying e = some (.struct fs)) (hi : (P.info? e).map (·.size) = some q) (kk : IntKind) (j : Nat) (J : Int) (hJ : J = j) (hj : j < m) {ds : Array Value} (hds : cs.extract (j * q) (j * q + q) = ds) :
    (Instr.index ty (.agg cs) (.int kk J)).run P w = .ok (.agg ds) w := by
  subst hJ hds
  obtain ⟨i, hi, hs⟩ := info_size hi
  have hagg : (isAgg e).run P w = .ok true w := by
    unfold isAgg
    rw [Sem.run_bind, run_underlying he w]
    rfl
  have hz : (sizeOf e).run P w = .ok q w := by simp [sizeOf, typeInfo, hi, hs]
  have hp : (part e cs (j * q)).run P w = .ok (.agg (cs.extract (j * q) (j * q + q))) w := by
    unfold part
    rw [Sem.run_bind, hagg]
    simp [hz]
  simp only [Instr.index, asIntOf, Sem.run_bind, Sem.run_pure, Result.andThen_ok, run_underlying hu w]
  rw [if_pos (by omega)]
  simp only [Sem.run_bind, hz, Result.andThen_ok, Int.toNat_natCast, hp]
/-- the plane of a block. -/
theorem plane_at (n k : Int) (hn : n = 0 ∨ n = 1) (hk : 1 ≤ k ∧ k ≤ 6) (b o c : Nat) : ∃ D m c' : Nat, (D : Int) = pD n k ∧ (m : Int) = pW n k * pH n k ∧ ∀ w, (Instr.index 120 (.agg (plV n b o c)) (.int .i64 (max 0 (k - 4)))).run Tryz.prog w = .ok (.agg #[.slice (some ⟨b, o + D, none⟩) m c', .int .i64 (pW n k), .int .i64 (pH n k)]) w := by
  have : k = 1 ∨ k = 2 ∨ k = 3 ∨ k = 4 ∨ k = 5 ∨ k = 6 := by omega
  rcases hn with rfl | rfl
  · rcases this with rfl | rfl | rfl | rfl | rfl | rfl
    iterate 4 exact ⟨0, 25344, c, rfl, rfl, fun w => run_index_struct (q := 3) w Tryz.underlying120 Tryz.underlying119 (by kernel_rfl) .i64 0 _ rfl (by omega) rfl⟩
    · exact ⟨25344, 6336, c - 25344, rfl, rfl, fun w => run_index_struct (q := 3) w Tryz.underlying120 Tryz.underlying119 (by kernel_rfl) .i64 1 _ rfl (by omega) rfl⟩
    · exact ⟨31680, 6336, c - 31680, rfl, rfl, fun w => run_index_struct (q := 3) w Tryz.underlying120 Tryz.underlying119 (by kernel_rfl) .i64 2 _ rfl (by omega) rfl⟩
  · rcases this with rfl | rfl | rfl | rfl | rfl | rfl
    iterate 4 exact ⟨0, 101376, c, rfl, rfl, fun w => run_index_struct (q := 3) w Tryz.underlying120 Tryz.underlying119 (by kernel_rfl) .i64 0 _ rfl (by omega) rfl⟩
    · exact ⟨101376, 25344, c - 101376, rfl, rfl, fun w => run_index_struct (q := 3) w Tryz.underlying120 Tryz.underlying119 (by kernel_rfl) .i64 1 _ rfl (by omega) rfl⟩
    · exact ⟨126720, 25344, c - 126720, rfl, rfl, fun w => run_index_struct (q := 3) w Tryz.underlying120 Tryz.underlying119 (by kernel_rfl) .i64 2 _ rfl (by omega) rfl⟩
theorem Boxed.froz2 {w : World} {B : Nat} {t : TypeId} {v : Value} (h : Boxed w B t v) : ∀ o1, (w.alloc o1).frozen? ⟨B, 0, none⟩ = false := fun o1 => (h.alloc o1).frozen
theorem Boxed.cell2 {w : World} {B : Nat} {t : TypeId} {v : Value} (h : Boxed w B t v) : ∀ o1, (w.alloc o1).cell? ⟨B, 0, none⟩ = some v := fun o1 => (h.alloc o1).cell

theorem boxes2 (w w' : World) {v1 v2 : Value} {t1 t2 : TypeId} (o1 o2 : Obj) (hB : Below ((w.alloc o1).alloc o2).heap.size ((w.alloc o1).alloc o2) w') (e1 : o1 = .cells #[v1] t1 (0, 0) := by rfl) (e2 : o2 = .cells #[v2] t2 (0, 0) := by rfl) :
    Boxed w' w.heap.size t1 v1 ∧ Boxed w' (w.heap.size + 1) t2 v2 := by
  subst e1 e2
  have b1 := ((Boxed.new w t1 v1).alloc (.cells #[v2] t2)).kept (grown_of_below hB none) (by simp)
  have b2 := (Boxed.new (w.alloc (.cells #[v1] t1)) t2 v2).kept (grown_of_below hB none) (by simp)
  rw [World.size_alloc] at b2
  exact ⟨b1, b2⟩


/-- the worlds at three stages: as it is; a cell stored; another one. -/
def st3 (w : World) (p q : Addr) (u v : Value) : Nat → World
  | 0 => w.drew
  | 1 => w.drew.setCell p u
  | _ => (w.drew.setCell p u).setCell q v
theorem st3_q {w : World} {p q : Addr} {u v x : Value} (h : w.cell? q = some x) (hp : p ≠ q) : ∀ t, t ≤ 1 → (st3 w p q u v t).cell? q = some x
  | 0, _ => h
  | 1, _ => (World.cell?_setCell_other _ _ _ _ hp).trans h
  | _ + 2, h => absurd h (by omega)
theorem st3_fq {w : World} {p q : Addr} {u v : Value} (h : w.frozen? q = false) : ∀ t, (st3 w p q u v t).frozen? q = false
  | 0 => h
  | 1 => (World.frozen?_setCell _ _ _ _).trans h
  | _ + 2 => (World.frozen?_setCell _ _ _ _).trans ((World.frozen?_setCell _ _ _ _).trans h)

theorem ownFrom_grown {β : Type} {B : Nat} {w : World} (row : Option Nat) (hB : w.heap.size ≤ B) : OwnFrom B (fun (_ : β) W => w.grownBy W row) :=
  fun _ _ _ _ hs hw hr => ⟨hw.os.trans hs.os, hw.tape.trans hs.tape, hw.output.trans hs.output, Nat.le_trans hs.size hw.size,
    fun i hi hne => (hw.block i (Nat.lt_of_lt_of_le hi hs.size) (fun e => by have := (hr i e.symm).1; omega)).trans (hs.block i hi hne)⟩
/-- the u-th sample of row v of a block that is fetched. -/
def pixS (f : Nat → Int) (D px py : Nat) (W : Int) (v u : Nat) : Int := f (D + (((py + v : Nat) : Int) * W + ((px + u : Nat) : Int)).toNat)
def pixRow (f : Nat → Int) (D px py : Nat) (W : Int) (v k : Nat) : List Value := (List.range k).map fun u => .int .u8 (pixS f D px py W v u)
def pixRows (f : Nat → Int) (D px py : Nat) (W : Int) (pre : List (Fin 8)) : List Value := pre.flatMap fun v => pixRow f D px py W v.val 8
theorem pix {f : Nat → Int} {D px py m : Nat} {W H : Int} (hm : (m : Int) = W * H) (hW : 0 ≤ W) (hx : (px : Int) + 8 ≤ W) (hy : (py : Int) + 8 ≤ H) :
    ∀ u v : Nat, u < 8 → v < 8 → ∃ p : Nat, ((py + v : Nat) : Int) * W + ((px + u : Nat) : Int) = (p : Int) ∧ p < m ∧ pixS f D px py W v u = f (D + p) := by
  intro u v hu hv
  have h1 : ((py + v : Nat) : Int) * W ≤ (H - 1) * W := Int.mul_le_mul_of_nonneg_right (by omega) hW
  have h2 : (H - 1) * W = W * H - W := by rw [Int.sub_mul, Int.mul_comm H W]; omega
  have h3 : 0 ≤ ((py + v : Nat) : Int) * W := Int.mul_nonneg (by omega) hW
  refine ⟨(((py + v : Nat) : Int) * W + ((px + u : Nat) : Int)).toNat, by omega, by omega, rfl⟩

theorem cells3 {w : World} {g : Nat} {x y z : Value} {t : TypeId} (h : w.heap[g]? = some (.cells #[x, y, z] t (0, 0))) : w.cell? ⟨g, 0, none⟩ = some x ∧ w.cell? ⟨g, 1, none⟩ = some y ∧ w.cell? ⟨g, 2, none⟩ = some z := by
  simp [World.cell?, h]
theorem ints_grown {W W' : World} {b o n g : Nat} {f : Nat → Int} (h : Ints W .u8 b o n f) (hg : W.grownBy W' (some g)) (hb : b < W.heap.size ∧ b ≠ g) : Ints W' .u8 b o n f :=
  fun i hi => (World.cell?_of_block (a := ⟨b, o + i, none⟩) (hg.block b hb.1 (fun e => hb.2 (Option.some.inj e)))).trans (h i hi)
theorem grown_more {W A B : World} {g : Nat} {row : Option Nat} (h : W.grownBy A (some g)) (k : A.grownBy B row) (hr : ∀ r, row = some r → W.heap.size ≤ r ∨ r = g) : W.grownBy B (some g) :=
  ⟨k.os.trans h.os, k.tape.trans h.tape, k.output.trans h.output, Nat.le_trans h.size k.size, fun i hi hne => (k.block i (Nat.lt_of_lt_of_le hi h.size) (fun e => by
    rcases hr i e.symm with h1 | h1
    · omega
    · exact hne (by rw [h1]))).trans (h.block i hi hne)⟩
theorem own_base {w : World} {base e size n : Nat} {v : Value} {xs : List Value} (h : w.ownsRow base e size v n xs) : w.ownsRow 0 e size v n xs :=
  ⟨h.1, h.2.imp id (fun ⟨g, cap, cur, h1, _, h3⟩ => ⟨g, cap, cur, h1, Nat.zero_le _, h3⟩)⟩
theorem own_ge {w : World} {base e size n : Nat} {v : Value} {xs : List Value} (h : w.ownsRow base e size v n xs) : ∀ r, v.ownBlock = some r → base ≤ r := by
  intro r hr
  rcases h.2 with ⟨rfl, _⟩ | ⟨g, cap, cur, rfl, h2, _⟩
  · cases hr
  · cases hr; exact h2
theorem own_past {w w' : World} {base e size n : Nat} {v : Value} {xs : List Value} (h : w.ownsRow base e size v n xs) (hB : Below w.heap.size w w') : w'.ownsRow base e size v n xs :=
  h.kept (grown_of_below hB none) (by cases hv : v.ownBlock <;> simp)
theorem pixRows_snoc (f : Nat → Int) (D px py : Nat) (W : Int) (pre : List (Fin 8)) (v : Fin 8) : pixRows f D px py W (pre ++ [v]) = pixRows f D px py W pre ++ pixRow f D px py W v.val 8 := by
  simp [pixRows]
theorem pixRow_succ (f : Nat → Int) (D px py : Nat) (W : Int) (v u : Nat) : pixRow f D px py W v (u + 1) = pixRow f D px py W v u ++ [.int .u8 (pixS f D px py W v u)] := by
  unfold pixRow; rw [List.range_succ, List.map_append]; rfl

theorem own_low {w : World} {B base e size n : Nat} {v : Value} {xs : List Value} (hb : B ≤ base) (h : w.ownsRow base e size v n xs) : w.ownsRow B e size v n xs :=
  ⟨h.1, h.2.imp id (fun ⟨g, cap, cur, h1, h2, h3⟩ => ⟨g, cap, cur, h1, Nat.le_trans hb h2, h3⟩)⟩
theorem pix_all (f : Nat → Int) (D px py : Nat) (W : Int) : pixRows f D px py W (List.finRange 8) = (List.range 64).map fun i => .int .u8 (pixS f D px py W (i / 8) (i % 8)) := by kernel_rfl
theorem pix_fet {f : Nat → Int} {D px py : Nat} {n g a k x y W : Int} (hD : (D : Int) = pD n k) (hW : pW n k = W) (hX : pX n g a k x = px) (hY : pY n g a k y = py) (h0 : 0 ≤ W) (i : Nat) :
    pixS f D px py W (i / 8) (i % 8) = fetF f n g a k x y i := by
  unfold pixS fetF
  rw [← hD, hW, hX, hY, ← Int.natCast_add]
  have h1 : 0 ≤ ((py + i / 8 : Nat) : Int) * W := Int.mul_nonneg (by omega) h0
  congr 1
  push_cast at *
  omega
theorem info_u8 : (Tryz.prog.info? 5).map (fun i => (i.zero, i.size, i.bytes)) = some (some (.int .u8 0), 1, 1) := by kernel_rfl
end Mo
end Go.Proofs.YtbmglemjfodfhaaGreat

namespace Go.Proofs.YtbmglemjfodfhaaGreat
open Go.RowKit
attribute [local go_sem] Oper.semAt_some
namespace Pa
open Mo

theorem rClip_any (n : Int) (w : World) : Calls Tryz.prog 114 #[.int .i64 n] w fun e w' => e = .returned (.int .u8 (clipF n)) ∧ w = w' := by
  have mn := fun w' => Lib.run_min_ints (P := Tryz.prog) w' #[3, 3] 3 .i64 .i64 (max n 0) 255
  have mx := fun w' => Lib.run_max_ints (P := Tryz.prog) w' #[3, 3] 3 .i64 .i64 n 0
  obtain ⟨m, hm⟩ : ∃ m, min (max n 0) 255 = m := ⟨_, rfl⟩
  have hb := clip_bd n
  have e0 : clipF n = m := by rw [← hm]; unfold clipF; omega
  have HM := Lib.hid e0
  have hb : 0 ≤ m ∧ m ≤ 255 := by rw [← e0]; exact hb
  simp only [hm] at mn
  clear hm e0
  go_enter Tryz.func114, Tryz.ntmps114
  go_wp2
  go_ret
  exact ⟨by rw [HM.out]; rfl, rfl⟩
theorem radd_no1 (a1 a2 : Option Addr) (N c1 M c2 : Nat) (g : Nat → Int) (w : World) (h : N ≠ 64) :
    Calls Tryz.prog 69 #[.slice a1 N c1, .slice a2 M c2] w fun e w' => e = .returned (.tuple #[.slice none 0 0, .int .i64 (addE N M g)]) ∧ w = w' := by
  have E : Hid (addE N M g = 2) := Lib.hid (by unfold addE; rw [if_pos (.inl h)])
  have t1 : ((N : Int) != 64) = true := by simp; omega
  clear h
  go_enter Tryz.func69, Tryz.ntmps69
  go_wp2_with fail
  go_ret2
  exact ⟨by rw [E.out]; rfl, rfl⟩
theorem radd_no2 (a1 a2 : Option Addr) (c1 M c2 : Nat) (g : Nat → Int) (w : World) (h : M ≠ 64) :
    Calls Tryz.prog 69 #[.slice a1 64 c1, .slice a2 M c2] w fun e w' => e = .returned (.tuple #[.slice none 0 0, .int .i64 (addE 64 M g)]) ∧ w = w' := by
  have E : Hid (addE 64 M g = 2) := Lib.hid (by unfold addE; rw [if_pos (.inr h)])
  have t1 : ((M : Int) != 64) = true := by simp; omega
  clear h
  go_enter Tryz.func69, Tryz.ntmps69
  go_wp2_with fail
  go_ret2
  exact ⟨by rw [E.out]; rfl, rfl⟩
set_option maxRecDepth 100000 in
theorem radd_yes (b1 o1 c1 b2 o2 c2 : Nat) (f g : Nat → Int) (w : World) (h1 : Ints w .u8 b1 o1 64 f) (h2 : Ints w .i64 b2 o2 64 g) (bf : ∀ i, i < 64 → 0 ≤ f i ∧ f i ≤ 255) :
    Calls Tryz.prog 69 #[.slice (some ⟨b1, o1, none⟩) 64 c1, .slice (some ⟨b2, o2, none⟩) 64 c2] w fun e w' => ∃ v, e = .returned (.tuple #[v, .int .i64 (addE 64 64 g)]) ∧ Res .u8 w.heap.size w' v (addN 64 64 g) (addF f g) ∧ Below w.heap.size w w' := by
  obtain ⟨i0, hi, hz0, hz1, hz2⟩ := info_parts info_byte
  have H1 := Lib.hid h1
  have H2 := Lib.hid h2
  have BF := Lib.hid bf
  clear h1 h2 bf
  refine (callsIn_wide (n := 12)).1 ?_
  refine callsIn_of_wp Tryz.func69 rfl trivial ?_ rfl
  simp only [Tryz.ntmps69, List.size_toArray, List.length_cons, List.length_nil, Nat.reduceAdd, Nat.reduceSub, Array.replicate_succ, Array.replicate_zero, List.push_toArray, List.append_toArray, List.nil_append, List.cons_append]
  gi_wp2
  gi_loopw [6, 7] (fun v i wr => ∃ k : Nat, k ≤ 64 ∧ i = .int .i64 k ∧ okR g k ∧ wr.ownsRow w.heap.size 5 1 v k ((List.range k).map fun j => .int .u8 (addF f g j)) ∧ Below w.heap.size w wr) (fun _ i _ => 64 - (intOf i).toNat)
  case atStart => exact ⟨0, by omega, rfl, fun i hi => by omega, World.ownsRow_nil _ _ _ _, Below.refl _ _⟩
  case round =>
    obtain ⟨k, hk, rfl, hok, hown, hB⟩ := hrel
    have OK := Lib.hid hok
    have OWN := Lib.hid hown
    have HB := Lib.hid hB
    have sz := hB.size
    clear hok hown hB
    by_cases hkn : k < 64
    · have e1 := (H1.out.below HB.out (H1.out.lt (by omega))) k hkn
      have e2 := (H2.out.below HB.out (H2.out.lt (by omega))) k hkn
      have bf := BF.out k hkn
      have b1 : (0 : Int) ≤ (k : Int) ∧ (k : Int) < 64 := by omega
      by_cases l1 : g k < -1048576
      · have E : Hid (addE 64 64 g = 3) := Lib.hid (by unfold addE; rw [if_neg (by omega), if_neg (fun h => by have := h k hkn; omega)])
        gi_wp2
        go_ret2
        exact ⟨_, by rw [E.out]; rfl, .inl ⟨by unfold addN; rw [E.out]; rfl, rfl⟩, HB.out⟩
      · by_cases l2 : 1048576 < g k
        · have E : Hid (addE 64 64 g = 3) := Lib.hid (by unfold addE; rw [if_neg (by omega), if_neg (fun h => by have := h k hkn; omega)])
          gi_wp2
          go_ret2
          exact ⟨_, by rw [E.out]; rfl, .inl ⟨by unfold addN; rw [E.out]; rfl, rfl⟩, HB.out⟩
        · have OK2 : Hid (okR g (k + 1)) := Lib.hid (fun i hi => by
            by_cases e : i = k
            · subst e; omega
            · exact OK.out i (by omega))
          obtain ⟨y, hy⟩ : ∃ y, f k + g k = y := ⟨_, rfl⟩
          obtain ⟨x, hx⟩ : ∃ x, clipF y = x := ⟨_, rfl⟩
          have HX : Hid (addF f g k = x) := Lib.hid (by unfold addF; rw [hy, hx])
          have wy : IntKind.i64.wrap (f k + g k) = y := by rw [hy]; exact IntWalk.i64_in _ (by omega)
          have wx : IntKind.i64.wrap (f k) = f k := IntWalk.i64_in _ (by omega)
          have CL : ∀ w, Calls Tryz.prog 114 #[.int .i64 y] w fun e w' => e = .returned (.int .u8 x) ∧ w = w' := fun w => by rw [← hx]; exact rClip_any y w
          have dk : decide ((k : Int) < 64) = true := by simp; omega
          clear hx hy
          gi_wp2
          have p1 := Past.cell e1
          have p2 := Past.cell e2
          refine regionIn_float (v := u6) 12 (by kernel_rfl) (by kernel_rfl) rfl rfl rfl (Or.inl ⟨rfl, fun w' ⟨x2, hx2⟩ => by subst hx2; go_simp⟩) ?_
          simp only [List.take_succ_cons, List.take_zero, List.drop_succ_cons, List.drop_zero]
          simp only [Act.put, List.setIfInBounds_toArray, List.set_cons_zero, List.set_cons_succ]
          repeat (go_big_quiet_step ((go_at_call 114; exact past_call ((CL _).mono fun _ _ ⟨h1, h2⟩ => ⟨h1, by subst h2; exact Below.refl _ _⟩))))
          refine wpQuiet_nil ?_
          rintro wd ⟨⟨_, h5⟩, rfl⟩
          rename_i wd
          refine ⟨fun _ _ => trivial, ?_⟩
          go_simp
          refine ⟨⟨⟨_, h5.alloc h5.size _⟩, rfl⟩, ?_⟩
          have OWd : Hid (wd.ownsRow w.heap.size 5 1 u6 k ((List.range k).map fun j => .int .u8 (addF f g j))) := Lib.hid (own_past OWN.out h5)
          have HBd : Hid (Below w.heap.size w wd) := Lib.hid (HB.out.trans (h5.mono sz))
          have szd : w.heap.size ≤ wd.heap.size := HBd.out.size
          clear CL wy wx p1 p2 h5
          gi_wp2_with (gi_at_builtin; refine wpListIn_append_own _ rfl _ _ 30 rfl w.heap.size 5 i0 (.int .u8 0) 1 1 Tryz.underlying30 hi hz0 hz1 hz2 rfl (by decide) u6 _ _ rfl (OWd.out.alloc _) ⟨wd.heap.size, 0, none⟩ 1 1 [.int .u8 x] rfl rfl (cell_one_new _ _ _) (by simp [Value.oneCell']) (by unfold maxLen; omega) (by omega) (by simp; omega) ?_; intro v' w1 hown2 hgr hnil)
          simp only [onlyN]
          have hB1 : Below w.heap.size w w1 := (HBd.out.alloc szd (.cells #[.int .u8 x] 5)).grown hgr (by simp; omega) (fun q hq => (OWd.out.lt q hq).1)
          have hown3 : w1.ownsRow w.heap.size 5 1 v' (k + 1) ((List.range (k + 1)).map fun j => .int .u8 (addF f g j)) := by rw [← range_snoc, HX.out]; exact hown2
          have OW3 := Lib.hid hown3
          have HB1 := Lib.hid hB1
          clear hown2 hgr hnil hown3 hB1
          gi_wp2
          go_roundw
          case rel => exact ⟨k + 1, by omega, by go_num, OK2.out, OW3.out, HB1.out⟩
          case measure => simp [intOf]; omega
    · obtain rfl : k = 64 := by omega
      have E : Hid (addE 64 64 g = 0) := Lib.hid (by unfold addE; rw [if_neg (by omega), if_pos OK.out])
      gi_wp2
      go_ret2
      exact ⟨_, by rw [E.out]; rfl, by unfold addN; rw [E.out, if_pos rfl]; exact Res.of_own OWN.out, HB.out⟩
theorem rAdd_any (va vb : Value) (N M : Nat) (f g : Nat → Int) (w : World) (h1 : Sl .u8 w va N f) (h2 : Sl .i64 w vb M g) (bf : ∀ i, i < N → 0 ≤ f i ∧ f i ≤ 255) :
    Calls Tryz.prog 69 #[va, vb] w fun e w' => ∃ v, e = .returned (.tuple #[v, .int .i64 (addE N M g)]) ∧ Res .u8 w.heap.size w' v (addN N M g) (addF f g) ∧ Below w.heap.size w w' := by
  obtain ⟨a1, c1, rfl, _, _, d1⟩ := h1
  obtain ⟨a2, c2, rfl, _, _, d2⟩ := h2
  by_cases hN : N = 64
  · by_cases hM : M = 64
    · subst hN hM
      rcases d1 with ⟨h0, _⟩ | ⟨b1, o1, rfl, _, i1⟩
      · omega
      · rcases d2 with ⟨h0, _⟩ | ⟨b2, o2, rfl, _, i2⟩
        · omega
        · exact radd_yes _ _ _ _ _ _ _ _ _ i1 i2 bf
    · subst hN
      refine (radd_no2 a1 a2 c1 M c2 g w hM).mono ?_
      rintro e w' ⟨rfl, rfl⟩
      exact ⟨_, rfl, .inl ⟨by unfold addN; rw [show addE 64 M g = 2 by unfold addE; rw [if_pos (.inr hM)]]; rfl, rfl⟩, Below.refl _ _⟩
  · refine (radd_no1 a1 a2 N c1 M c2 g w hN).mono ?_
    rintro e w' ⟨rfl, rfl⟩
    exact ⟨_, rfl, .inl ⟨by unfold addN; rw [show addE N M g = 2 by unfold addE; rw [if_pos (.inl hN)]]; rfl, rfl⟩, Below.refl _ _⟩
set_option maxRecDepth 100000 in
theorem rFlat_any (vb : Value) (M : Nat) (g : Nat → Int) (w : World) (h2 : Sl .i64 w vb M g) :
    Calls Tryz.prog 68 #[vb] w fun e w' => ∃ v, e = .returned (.tuple #[v, .int .i64 (addE 64 M g)]) ∧ Res .u8 w.heap.size w' v (addN 64 M g) (addF (fun _ => 0) g) ∧ Below w.heap.size w w' := by
  have H2 := Lib.hid h2
  obtain ⟨a2, c2, rfl, _, _, _⟩ := h2
  obtain ⟨i0, hi, hz0, hz1, hz2⟩ := info_parts info_byte
  go_enter Tryz.func68, Tryz.ntmps68
  go_wp2_with (first
    | (refine wpList_make_full w rfl _ _ 30 rfl w.heap.size 5 i0 (.int .u8 0) 1 Tryz.underlying30 hi hz0 hz1 .i64 .i64 _ _ 64 rfl rfl rfl rfl (by rw [hz2]; omega) (by unfold maxLen; omega) (Nat.le_refl _) ?_; intro w1 hown hgr; have HA := Lib.hid (made_sl hown); have HB := Lib.hid ((Below.refl w.heap.size w).grown hgr (Nat.le_refl _) (fun _ e => by cases e)); clear hown hgr)
    | (go_at_call 69; refine (rAdd_any _ _ 64 M (fun _ => 0) g _ HA.out.sl (H2.out.below HB.out) (fun _ _ => by omega)).mono ?_; rintro e w2 ⟨v, rfl, hR, hB⟩; have HR := Lib.hid hR; have HC := Lib.hid (HB.out.trans (hB.mono HB.out.size)); have sz := HB.out.size; clear hR hB))
  go_ret2
  refine ⟨_, rfl, ?_, HC.out⟩
  have := HR.out
  rcases this with h | ⟨g', c, h1, h2, h3⟩
  · exact .inl h
  · exact .inr ⟨g', c, h1, by omega, h3⟩
end Pa
end Go.Proofs.YtbmglemjfodfhaaGreat
