/- All lines of a block, summed by weights: each. -/
import Derived.Test.YtpibeocngkjolaaGreatDoorMgCosIt
import Derived.Test.YtpibeocngkjolaaGreatDoorMgCosL
set_option linter.unusedVariables false
set_option linter.unusedSimpArgs false

namespace Go.Proofs.YtpibeocngkjolaaGreatDoor
open Go.RowKit Go.Shelf
attribute [local go_sem] Oper.semAt_some

/-- a whole array is loaded, inside a fence. -/
theorem wpListIn_load_arr {F : Fence} {nn : Nat} {P : Program} {ops : Array Oper} {rest : List Oper} {o : Oper} {a : Act} {w : World} {Q : Exit → Act → World → Prop} (hgd : o.guard = none) (ty : TypeId) (x : Operand) (ho : o.op = .load ty x)
    {k : IntKind} {g n m : Nat} {f : Nat → Int} {e : TypeId} (hx : a.eval x = .pointer (some ⟨g, 0, none⟩)) (h : Arr w k g n f) (hu : P.underlying ty = some (.array m e)) (hi : (P.info? ty).map (·.size) = some n)
    (hK : wpListIn F nn P ops Q rest (a.put o.dst (.agg (rowOf k n f))) w) : wpListIn F nn P ops Q (o :: rest) a w := by
  refine wpListIn_plain hgd fun K hK' => ?_
  unfold Oper.wpIn
  refine ⟨?_, ?_⟩
  · simp [Oper.about, ho]
  · rw [Oper.semAt_plain F _ _ (by rw [ho]; intro c hc'; cases hc')]
    unfold execOp
    simp only [ho, hx, Instr.loadAt, Instr.sureAddr, Sem.run_bind, Sem.run_pure, Result.andThen_ok, run_loadVar_arr h hu hi]
    exact hK' _ _ hK
theorem wpListIn_store_arr {F : Fence} {nn : Nat} {P : Program} {ops : Array Oper} {rest : List Oper} {o : Oper} {a : Act} {w : World} {Q : Exit → Act → World → Prop} (hgd : o.guard = none) (ty : TypeId) (x y : Operand) (ho : o.op = .store ty x y)
    {k : IntKind} {g n : Nat} {f f' : Nat → Int} (hx : a.eval x = .pointer (some ⟨g, 0, none⟩)) (hy : a.eval y = .agg (rowOf k n f')) (h : Arr w k g n f) (hi : (P.info? ty).map (·.size) = some n)
    (hK : ∀ w', Hid (Arr w' k g n f') → Hid (w.grownBy w' (some g)) → wpListIn F nn P ops Q rest (a.put o.dst undef) w') : wpListIn F nn P ops Q (o :: rest) a w := by
  refine wpListIn_plain hgd fun K hK' => ?_
  unfold Oper.wpIn
  refine ⟨?_, ?_⟩
  · simp [Oper.about, ho]
  · rw [Oper.semAt_plain F _ _ (by rw [ho]; intro c hc'; cases hc')]
    unfold execOp
    simp only [ho, hx, hy, Instr.storeAt, Instr.sureAddr, Sem.run_bind, Sem.run_pure, Result.andThen_ok, run_storeVar_mid w g 0 ty (rowOf k n f') (by rw [rowOf_size]; exact h.there) (by rw [rowOf_size]; exact hi) (rowOf_one k n f')]
    exact hK' _ _ (hK _ (Lib.hid (h.storeAll k f')) (Lib.hid (grown_setCells g _ 0 w)))
namespace Co

/-- eight numbers out of a block, from a on, s apart. -/
def getAll (f : Nat → Int) (a s : Nat) (pre : List (Fin 8)) : Nat → Int := pre.foldl (fun g x j => if j = x.val then f (a + x.val * s) else g j) (fun _ => 0)
/-- eight numbers put back there. -/
def putAll (m : Nat → Int) (a s : Nat) (pre : List (Fin 8)) (f : Nat → Int) : Nat → Int := pre.foldl (fun g x p => if p = a + x.val * s then m x.val else g p) f
def lineAt (b s : Nat) (f : Nat → Int) (i : Fin 8) : Nat → Int := putAll (fun x => accW (getAll f (i.val * b) s (List.finRange 8)) x 8) (i.val * b) s (List.finRange 8) f
def eachF (b s : Nat) (f : Nat → Int) (pre : List (Fin 8)) : Nat → Int := pre.foldl (lineAt b s) f
theorem getAll_snoc (f : Nat → Int) (a s : Nat) (pre : List (Fin 8)) (x : Fin 8) : getAll f a s (pre ++ [x]) = fun j => if j = x.val then f (a + x.val * s) else getAll f a s pre j := by simp [getAll]
theorem putAll_snoc (m : Nat → Int) (a s : Nat) (pre : List (Fin 8)) (x : Fin 8) (f : Nat → Int) : putAll m a s (pre ++ [x]) f = fun p => if p = a + x.val * s then m x.val else putAll m a s pre f p := by simp [putAll]
theorem eachF_snoc (b s : Nat) (f : Nat → Int) (pre : List (Fin 8)) (x : Fin 8) : eachF b s f (pre ++ [x]) = lineAt b s (eachF b s f pre) x := by simp [eachF]

theorem ownFrom_arr {β : Type} {B : Nat} (k : IntKind) (g n : Nat) (F : β → Nat → Int) (hg : g < B) : OwnFrom B (fun s W => Arr W k g n (F s)) :=
  fun _ _ _ _ hs hw hr => hs.grown hw (fun e => by have := (hr g e.symm).1; omega)
theorem ownFrom_grown {β : Type} {B : Nat} {w : World} (row : Option Nat) (hB : w.heap.size ≤ B) : OwnFrom B (fun (_ : β) W => w.grownBy W row) :=
  fun _ _ _ _ hs hw hr => ⟨hw.os.trans hs.os, hw.tape.trans hs.tape, hw.output.trans hs.output, Nat.le_trans hs.size hw.size,
    fun i hi hne => (hw.block i (Nat.lt_of_lt_of_le hi hs.size) (fun e => by have := (hr i e.symm).1; omega)).trans (hs.block i hi hne)⟩
theorem ownFrom_kp2 {β : Type} {B B1 B2 : Nat} {t : TypeId} {a s : Int} {w : World} (h1 : B1 < B) (h2 : B2 < B) : OwnFrom B (fun (_ : β) W => Kp2 B1 B2 t a s w W) :=
  fun _ _ _ _ hs hw hr => kp2_t hs (kp2_grown hw (fun e => by have := (hr B1 e.symm).1; omega) (fun e => by have := (hr B2 e.symm).1; omega))
theorem keepsFrom_below {B : Nat} {W W' : World} (h : Below W.heap.size W W') : KeepsFrom B W W' :=
  ⟨h.size, fun k _ _ h0 _ => (h.block k (Array.getElem?_eq_some_iff.1 h0).1).trans h0⟩
/-- a row of cells has turned: what is no cells lies as it lay. -/
theorem keepsFrom_row {B : Nat} {W W' : World} {k : IntKind} {g n : Nat} {f : Nat → Int} (h : Arr W k g n f) (hn : 0 < n) (hg : W.grownBy W' (some g)) : KeepsFrom B W W' :=
  ⟨hg.size, fun i o _ h0 ho => by
    refine (hg.block i (Array.getElem?_eq_some_iff.1 h0).1 (fun e => ?_)).trans h0
    have e1 := Option.some.inj e
    subst e1
    have hc := (h 0 hn).1
    simp only [World.cell?, h0] at hc
    cases o <;> simp_all [Obj.isCells]⟩
/-- what the rounds hold: the block, the weights, three boxes; nothing else has turned. -/
def Held (w : World) (gb gw : Nat) (s : Int) (F : Nat → Int) (W : World) : Prop :=
  (Arr W .i64 gb 64 F ∧ Arr W .i64 gw 64 wtF) ∧ (Boxed W w.heap.size 115 (.pointer (some ⟨gb, 0, none⟩)) ∧ Boxed W (w.heap.size + 1) 3 (.int .i64 s) ∧ Boxed W (w.heap.size + 1 + 1) 116 (.pointer (some ⟨gw, 0, none⟩))) ∧ w.grownBy W (some gb)
theorem ownFrom_held {β : Type} {B : Nat} {w : World} {gb gw : Nat} {s : Int} (F : β → Nat → Int) (hb : gb < w.heap.size) (hw : gw < w.heap.size) (hB : w.heap.size + 3 ≤ B) : OwnFrom B (fun x W => Held w gb gw s (F x) W) :=
  OwnFrom.and (OwnFrom.and (ownFrom_arr .i64 gb 64 F (by omega)) (ownFrom_arr .i64 gw 64 (fun _ => wtF) (by omega)))
    (OwnFrom.and (OwnFrom.and (Own.from (boxed_own _ _ (fun _ => _)) _) (OwnFrom.and (Own.from (boxed_own _ _ (fun _ => _)) _) (Own.from (boxed_own _ _ (fun _ => _)) _))) (ownFrom_grown _ (by omega)))
section
variable {w W W' : World} {gb gw : Nat} {s : Int} {F : Nat → Int}
/-- a turn of a block that is the call's own, or of none. -/
theorem Held.grown {row : Option Nat} (h : Held w gb gw s F W) (hg : W.grownBy W' row) (hb : gb < w.heap.size) (hw : gw < w.heap.size) (hr : ∀ r, row = some r → w.heap.size + 3 ≤ r) : Held w gb gw s F W' := by
  obtain ⟨⟨a, b⟩, ⟨c, d, e⟩, g⟩ := h
  have ne : ∀ q, q < w.heap.size + 3 → some q ≠ row := fun q hq e => by have := hr q e.symm; omega
  exact ⟨⟨a.grown hg (ne _ (by omega)), b.grown hg (ne _ (by omega))⟩, ⟨c.kept hg (ne _ (by omega)), d.kept hg (ne _ (by omega)), e.kept hg (ne _ (by omega))⟩,
    hg.os.trans g.os, hg.tape.trans g.tape, hg.output.trans g.output, Nat.le_trans g.size hg.size, fun i hi hne => (hg.block i (Nat.lt_of_lt_of_le hi g.size) (ne i (by omega))).trans (g.block i hi hne)⟩
theorem Held.below (h : Held w gb gw s F W) (hg : Below W.heap.size W W') (hb : gb < w.heap.size) (hw : gw < w.heap.size) : Held w gb gw s F W' := h.grown (grown_of_below hg none) hb hw (fun _ e => by cases e)
theorem Held.alloc (h : Held w gb gw s F W) (hb : gb < w.heap.size) (hw : gw < w.heap.size) (o : Obj) : Held w gb gw s F (W.alloc o) := h.grown (World.grownBy_alloc W o none) hb hw (fun _ e => by cases e)
theorem Held.drew (h : Held w gb gw s F W) (hb : gb < w.heap.size) (hw : gw < w.heap.size) : Held w gb gw s F W.drew := h.below ((Below.refl _ _).drew) hb hw
/-- a number stored into the block. -/
theorem Held.set (h : Held w gb gw s F W) (hb : gb < w.heap.size) (hne : gb ≠ gw) (j : Nat) (x : Int) : Held w gb gw s (fun i => if i = j then x else F i) (W.setCell ⟨gb, j, none⟩ (.int .i64 x)) := by
  obtain ⟨⟨a, b⟩, ⟨c, d, e⟩, g⟩ := h
  have hg := grown_set (World.grownBy.refl W (some gb)) j (.int .i64 x)
  exact ⟨⟨a.set j x, b.far (a := ⟨gb, j, none⟩) hne _⟩, ⟨c.kept hg (by simp; omega), d.kept hg (by simp; omega), e.kept hg (by simp; omega)⟩, grown_set g j _⟩
end

set_option maxRecDepth 100000 in
set_option maxHeartbeats 4000000 in
theorem each_any (b s : Nat) (hbs : (b = 8 ∧ s = 1) ∨ (b = 1 ∧ s = 8)) (gb gw : Nat) (f : Nat → Int) (w : World) (hne : gb ≠ gw) (hA : Arr w .i64 gb 64 f) (hW : Arr w .i64 gw 64 wtF) :
    Calls Tryz.prog 81 #[.pointer (some ⟨gb, 0, none⟩), .int .i64 b, .int .i64 s, .pointer (some ⟨gw, 0, none⟩)] w fun e w' => e = .returned (.tuple #[]) ∧ Arr w' .i64 gb 64 (eachF b s f (List.finRange 8)) ∧ w.grownBy w' (some gb) := by
  have hgb := hA.lt (by omega)
  have hgw := hW.lt (by omega)
  have sb : (0 : Int) ≤ (s : Int) ∧ (s : Int) ≤ 8 := by omega
  have bb : (0 : Int) ≤ (b : Int) ∧ (b : Int) ≤ 8 := by omega
  have b3 := Boxed.new (((w.alloc (.cells #[.pointer (some ⟨gb, 0, none⟩)] 115)).alloc (.cells #[.int .i64 s] 3)).alloc (.cells #[.pointer (some ⟨gw, 0, none⟩)] 116)) 3 (.int .i64 0)
  have b4 := Boxed.new ((((w.alloc (.cells #[.pointer (some ⟨gb, 0, none⟩)] 115)).alloc (.cells #[.int .i64 s] 3)).alloc (.cells #[.pointer (some ⟨gw, 0, none⟩)] 116)).alloc (.cells #[.int .i64 0] 3)) 3 (.int .i64 b)
  have b0 := Boxed.new w 115 (.pointer (some ⟨gb, 0, none⟩))
  have b1 := Boxed.new (w.alloc (.cells #[.pointer (some ⟨gb, 0, none⟩)] 115)) 3 (.int .i64 s)
  have b2 := Boxed.new ((w.alloc (.cells #[.pointer (some ⟨gb, 0, none⟩)] 115)).alloc (.cells #[.int .i64 s] 3)) 116 (.pointer (some ⟨gw, 0, none⟩))
  simp only [World.size_alloc] at b1 b2 b3 b4
  have H0 : Held w gb gw s f (((((w.alloc (.cells #[.pointer (some ⟨gb, 0, none⟩)] 115)).alloc (.cells #[.int .i64 s] 3)).alloc (.cells #[.pointer (some ⟨gw, 0, none⟩)] 116)).alloc (.cells #[.int .i64 0] 3)).alloc (.cells #[.int .i64 b] 3)) :=
    ⟨⟨((((hA.alloc _).alloc _).alloc _).alloc _).alloc _, ((((hW.alloc _).alloc _).alloc _).alloc _).alloc _⟩, ⟨(((b0.alloc _).alloc _).alloc _).alloc _, ((b1.alloc _).alloc _).alloc _, (b2.alloc _).alloc _⟩, grown_of_below (((((Below.refl w.heap.size w).alloc (Nat.le_refl _) _).alloc (by simp) _).alloc (by simp; omega) _).alloc (by simp; omega) _ |>.alloc (by simp; omega) _) _⟩
  have b3 := b3.alloc (.cells #[.int .i64 b] 3)
  have hsz : (((((w.alloc (.cells #[.pointer (some ⟨gb, 0, none⟩)] 115)).alloc (.cells #[.int .i64 s] 3)).alloc (.cells #[.pointer (some ⟨gw, 0, none⟩)] 116)).alloc (.cells #[.int .i64 0] 3)).alloc (.cells #[.int .i64 b] 3)).heap.size = w.heap.size + 5 := by simp
  have HH0 := Lib.hid H0
  have B3 := Lib.hid b3
  have B4 := Lib.hid b4
  have HSZ := Lib.hid hsz
  clear hA hW b0 b1 b2 b3 b4 H0 hsz
  refine (callsIn_wide (n := 12)).1 ?_
  refine callsIn_of_wp_marks Tryz.func81 rfl trivial ?_ rfl
  simp only [Tryz.ntmps81, List.size_toArray, List.length_cons, List.length_nil, Nat.reduceAdd, Nat.reduceSub, Array.replicate_succ, Array.replicate_zero, List.push_toArray, List.append_toArray, List.nil_append, List.cons_append]
  gi_wp2_with (refine ⟨trivial, ?_⟩; gi_at_call 102; refine (strided_in Fence.wide 11 trivial rfl _ _ _).mono ?_; rintro e w' ⟨rfl, rfl⟩)
  obtain ⟨W0, hW0⟩ : ∃ W0, (((((w.alloc (.cells #[.pointer (some ⟨gb, 0, none⟩)] 115)).alloc (.cells #[.int .i64 s] 3)).alloc (.cells #[.pointer (some ⟨gw, 0, none⟩)] 116)).alloc (.cells #[.int .i64 0] 3)).alloc (.cells #[.int .i64 b] 3)) = W0 := ⟨_, rfl⟩
  rw [hW0] at HH0 B3 B4 HSZ ⊢
  clear hW0
  have hs5 := HSZ.out
  refine wpIn_rangeFunc_ownH (F := Fence.wide) rfl (by omega) (gf := 119) (lb := #[.pointer (some ⟨w.heap.size + 1 + 1 + 1, 0, none⟩), .pointer (some ⟨w.heap.size + 1 + 1 + 1 + 1, 0, none⟩)]) rfl trivial (enters_of Tryz.func119 (by kernel_rfl) rfl)
    (strided_stops Fence.wide 11 trivial rfl (by omega) (w.heap.size + 1 + 1 + 1) (w.heap.size + 1 + 1 + 1 + 1) 0 b (by omega) (by omega) W0 B3.out B4.out) kp2_t kp2_b (Below.refl _ _) (fun _ => rfl)
    (fun pre W => Held w gb gw s (eachF b s f pre) W)
    (fun _ _ _ => False)
    (ownFrom_held (fun pre => eachF b s f pre) hgb hgw (by omega))
    (fun _ _ _ _ _ hs _ _ => hs)
    HH0.out
    (fun x a' _ => a' = { tmps := #[.pointer (some ⟨gb, 0, none⟩), .int .i64 b, .int .i64 s, .pointer (some ⟨gw, 0, none⟩), .pointer (some ⟨w.heap.size, 0, none⟩), undef, .pointer (some ⟨w.heap.size + 1, 0, none⟩), .pointer (some ⟨w.heap.size + 1 + 1, 0, none⟩), undef, .int .i64 (((x : Nat) : Int) * b), undef, undef, undef, undef, undef, .int .i64 b, .func (.func 119) #[] #[.pointer (some ⟨w.heap.size + 1 + 1 + 1, 0, none⟩), .pointer (some ⟨w.heap.size + 1 + 1 + 1 + 1, 0, none⟩)], .int .i64 ((x : Nat) : Int), .int .i64 (((x : Nat) : Int) * b), undef, undef, undef, undef, undef, undef, undef, undef, undef, undef, undef, undef, undef, undef, undef, undef, undef, undef, undef, undef, undef, undef, undef, undef, undef, undef, undef], defers := [] })
    (fun _ _ _ _ _ _ hs _ _ => hs)
    ?assign ?body ?done ?stop
  case assign =>
    rintro l pre x W K h hK
    gi_wp2
    exact hK _ _ (KeepsFrom.refl _ _) (kp2_refl _) h rfl
  case body =>
    rintro l pre x a' W hl ⟨r, hr⟩ hH rfl hlt
    have hlW := (Array.getElem?_eq_some_iff.1 hr).1
    have hwW : w.heap.size + 5 ≤ W.heap.size := by omega
    have c6 := (hH.2.1.2.1.alloc (.cells #[.int .i64 0, .int .i64 0, .int .i64 0, .int .i64 0, .int .i64 0, .int .i64 0, .int .i64 0, .int .i64 0] 111)).cell
    have HH := Lib.hid hH
    clear hH
    gi_wp2_with (refine ⟨trivial, ?_⟩; gi_at_call 102; refine (CallsIn.inRound l (strided_in Fence.wide 9 trivial rfl _ _ _)).mono ?_; rintro e w' ⟨rfl, rfl⟩)
    have m0 := Arr.new W .i64 (rowOf .i64 8 (fun _ => 0)) 111 8 (fun _ => 0) (fun i hi => rowOf_get _ _ _ _ hi)
    have A0 : Arr (((W.alloc (.cells #[.int .i64 0, .int .i64 0, .int .i64 0, .int .i64 0, .int .i64 0, .int .i64 0, .int .i64 0, .int .i64 0] 111)).alloc (.cells #[.int .i64 (((x : Nat) : Int) * b)] 3)).alloc (.cells #[.int .i64 s] 3)) .i64 W.heap.size 8 (fun _ => 0) := (Arr.alloc (w := W.alloc (.cells #[.int .i64 0, .int .i64 0, .int .i64 0, .int .i64 0, .int .i64 0, .int .i64 0, .int .i64 0, .int .i64 0] 111)) m0 _).alloc _
    have n1 := (Boxed.new (W.alloc (.cells #[.int .i64 0, .int .i64 0, .int .i64 0, .int .i64 0, .int .i64 0, .int .i64 0, .int .i64 0, .int .i64 0] 111)) 3 (.int .i64 (((x : Nat) : Int) * b))).alloc (.cells #[.int .i64 s] 3)
    have n2 := Boxed.new ((W.alloc (.cells #[.int .i64 0, .int .i64 0, .int .i64 0, .int .i64 0, .int .i64 0, .int .i64 0, .int .i64 0, .int .i64 0] 111)).alloc (.cells #[.int .i64 (((x : Nat) : Int) * b)] 3)) 3 (.int .i64 s)
    simp only [World.size_alloc] at n1 n2
    have hW1 : (((W.alloc (.cells #[.int .i64 0, .int .i64 0, .int .i64 0, .int .i64 0, .int .i64 0, .int .i64 0, .int .i64 0, .int .i64 0] 111)).alloc (.cells #[.int .i64 (((x : Nat) : Int) * b)] 3)).alloc (.cells #[.int .i64 s] 3)).heap.size = W.heap.size + 3 := by simp
    have hG1 : W.grownBy (((W.alloc (.cells #[.int .i64 0, .int .i64 0, .int .i64 0, .int .i64 0, .int .i64 0, .int .i64 0, .int .i64 0, .int .i64 0] 111)).alloc (.cells #[.int .i64 (((x : Nat) : Int) * b)] 3)).alloc (.cells #[.int .i64 s] 3)) none := grown_of_below ((((Below.refl W.heap.size W).alloc (Nat.le_refl _) _).alloc (by simp) _).alloc (by simp; omega) _) none
    obtain ⟨W1, hW1e⟩ : ∃ W1, (((W.alloc (.cells #[.int .i64 0, .int .i64 0, .int .i64 0, .int .i64 0, .int .i64 0, .int .i64 0, .int .i64 0, .int .i64 0] 111)).alloc (.cells #[.int .i64 (((x : Nat) : Int) * b)] 3)).alloc (.cells #[.int .i64 s] 3)) = W1 := ⟨_, rfl⟩
    rw [hW1e] at A0 n1 n2 hW1 hG1 ⊢
    clear hW1e c6 m0
    have HH1 := Lib.hid (HH.out.grown hG1 hgb hgw (fun _ e => by cases e))
    have hr' : W1.heap[l]? = some (.loop r) := (hG1.block l hlW (by simp)).trans hr
    have xb : (0 : Int) ≤ ((x : Nat) : Int) * b ∧ ((x : Nat) : Int) * b ≤ 100 := by have := x.2; rcases hbs with ⟨rfl, _⟩ | ⟨rfl, _⟩ <;> omega
    have K1 : Kp2 (w.heap.size + 1 + 1 + 1) (w.heap.size + 1 + 1 + 1 + 1) 3 0 b W W1 := kp2_grown hG1 (by simp) (by simp)
    have KF1 : KeepsFrom W0.heap.size W W1 := KeepsFrom.of_grownBy hG1 (fun _ e => by cases e)
    refine wpIn_rangeFunc_ownN (l₀ := l) (r₀ := r) rfl hr' (by omega) (gf := 119) (lb := #[.pointer (some ⟨W.heap.size + 1, 0, none⟩), .pointer (some ⟨W.heap.size + 1 + 1, 0, none⟩)]) rfl trivial (enters_of Tryz.func119 (by kernel_rfl) rfl)
      ((strided_stops Fence.wide 9 trivial rfl (by omega) (W.heap.size + 1) (W.heap.size + 1 + 1) (((x : Nat) : Int) * b) s (by omega) (by omega) W1 n1 n2).inRound l) kp2_t kp2_b (Below.refl _ _) (fun _ => rfl)
      (fun pre' W' => (Arr W' .i64 W.heap.size 8 (getAll (eachF b s f pre) (x.val * b) s pre') ∧ Held w gb gw s (eachF b s f pre) W') ∧ (Kp2 (w.heap.size + 1 + 1 + 1) (w.heap.size + 1 + 1 + 1 + 1) 3 0 b W W' ∧ KeepsFrom W0.heap.size W W'))
      (fun _ _ _ => False)
      (OwnFrom.and (OwnFrom.and (ownFrom_arr .i64 W.heap.size 8 (fun pre' => getAll (eachF b s f pre) (x.val * b) s pre') (by omega)) (ownFrom_held (fun _ => eachF b s f pre) hgb hgw (by omega))) (OwnFrom.and (ownFrom_kp2 (by omega) (by omega)) (ownFrom_keepsFrom (by omega))))
      (fun _ _ _ _ _ hs _ _ => hs)
      ⟨⟨A0, HH1.out⟩, K1, KF1⟩
      (fun y a' _ => a' = { tmps := #[.pointer (some ⟨gb, 0, none⟩), .int .i64 b, .int .i64 s, .pointer (some ⟨gw, 0, none⟩), .pointer (some ⟨w.heap.size, 0, none⟩), undef, .pointer (some ⟨w.heap.size + 1, 0, none⟩), .pointer (some ⟨w.heap.size + 1 + 1, 0, none⟩), undef, .int .i64 (((x : Nat) : Int) * b), .pointer (some ⟨W.heap.size, 0, none⟩), .int .i64 ((y : Nat) : Int), .int .i64 (((x : Nat) : Int) * b + ((y : Nat) : Int) * s), undef, undef, .int .i64 b, .func (.func 119) #[] #[.pointer (some ⟨w.heap.size + 1 + 1 + 1, 0, none⟩), .pointer (some ⟨w.heap.size + 1 + 1 + 1 + 1, 0, none⟩)], .int .i64 ((x : Nat) : Int), .int .i64 (((x : Nat) : Int) * b), .int .i64 (((x : Nat) : Int) * b), .int .i64 s, .func (.func 119) #[] #[.pointer (some ⟨W.heap.size + 1, 0, none⟩), .pointer (some ⟨W.heap.size + 1 + 1, 0, none⟩)], .int .i64 ((y : Nat) : Int), .int .i64 (((x : Nat) : Int) * b + ((y : Nat) : Int) * s), undef, undef, undef, undef, undef, undef, undef, undef, undef, undef, undef, undef, undef, undef, undef, undef, undef, undef, undef, undef, undef, undef], defers := [] })
      (fun _ _ _ _ _ _ hs _ _ => hs)
      ?assign2 ?body2 ?done2 ?stop2
    case assign2 =>
      rintro l2 pre' y W' K h hK
      gi_wp2
      exact hK _ _ (KeepsFrom.refl _ _) (kp2_refl _) h rfl
    case body2 =>
      rintro l2 pre' y a'' W' hl2 ⟨r2, hr2⟩ ⟨⟨hA, hH⟩, hK1, hKF⟩ rfl hlt2
      obtain ⟨q, hq⟩ : ∃ q, q = x.val * b + y.val * s := ⟨_, rfl⟩
      have q64 : q < 64 := by have := x.2; have := y.2; rcases hbs with ⟨rfl, rfl⟩ | ⟨rfl, rfl⟩ <;> omega
      have qe : ((x : Nat) : Int) * b + ((y : Nat) : Int) * s = (q : Int) := by rw [hq]; push_cast; rfl
      have y8 : (0 : Int) ≤ ((y : Nat) : Int) ∧ ((y : Nat) : Int) < 8 := by have := y.2; omega
      have cb := hH.2.1.1.cell
      have cg := (hH.1.1 q q64).1
      have cl := hA y.val y.2
      have hg := fun (u : Value) => grown_set (World.grownBy.refl W' (some W.heap.size)) y.val u
      have hA2 := hA.set y.val (eachF b s f pre q)
      have hA3 : Arr (W'.setCell ⟨W.heap.size, y.val, none⟩ (.int .i64 (eachF b s f pre q))) .i64 W.heap.size 8 (getAll (eachF b s f pre) (x.val * b) s (pre' ++ [y])) := by rw [getAll_snoc, ← hq]; exact hA2
      have HA3 := Lib.hid hA3
      have HH2 := Lib.hid hH
      have HK1 := Lib.hid hK1
      have HKF := Lib.hid hKF
      clear hA hH hK1 hKF hA2 hA3 hq
      gi_wp2
      exact ⟨(KeepsOthers.setCell _ _ _).from _, kp2_grown (hg _) (fun e => by have := Option.some.inj e; omega) (fun e => by have := Option.some.inj e; omega), ⟨HA3.out, HH2.out.grown (hg _) hgb hgw (fun r e => by cases e; omega)⟩, kp2_t HK1.out (kp2_grown (hg _) (by simp; omega) (by simp; omega)), HKF.out.trans ((KeepsOthers.setCell _ _ _).from _)⟩
    case done2 =>
      rintro ys W' rfl ⟨⟨hA, hH⟩, hK1, hKF⟩
      have cs := hH.2.1.2.1.cell
      have cw := hH.2.1.2.2.cell
      have HA := Lib.hid hA
      have HH2 := Lib.hid hH
      have HK1 := Lib.hid hK1
      have HKF := Lib.hid hKF
      clear hA hH hK1 hKF
      gi_wp2_with (first
        | (refine wpListIn_load_arr rfl 111 (.tmp 10) rfl rfl HA.out Tryz.underlying111 (by kernel_rfl) ?_)
        | (refine ⟨trivial, ?_⟩; gi_at_call 103; refine (CallsIn.inRound l (callsIn_wide.2 (line_any (getAll (eachF b s f pre) (x.val * b) s (List.finRange 8)) gw _ HH2.out.1.2))).mono ?_; rintro e w2 ⟨rfl, b2⟩; have HA := Lib.hid (HA.out.below b2 (HA.out.lt (by omega))); have HH2 := Lib.hid (HH2.out.below b2 hgb hgw); have HK1 := Lib.hid (kp2_t HK1.out (kp2_grown (grown_of_below b2 none) (by simp) (by simp))); have HKF := Lib.hid (HKF.out.trans (keepsFrom_below b2)); clear b2)
        | (refine wpListIn_store_arr rfl 111 (.tmp 10) (.tmp 33) rfl rfl rfl HA.out (by kernel_rfl) ?_; intro w3 HM HG3; have HKF := Lib.hid (HKF.out.trans (keepsFrom_row HA.out (by omega) HG3.out)); have HH2 := Lib.hid (HH2.out.grown HG3.out hgb hgw (fun r e => by cases e; omega)); have HK1 := Lib.hid (kp2_t HK1.out (kp2_grown HG3.out (fun e => by have := Option.some.inj e; omega) (fun e => by have := Option.some.inj e; omega))); have c6 := HH2.out.2.1.2.1.cell; have hr3 : Hid (w3.heap[l]? = some (.loop r)) := Lib.hid (HKF.out.same l _ hl hr rfl))
        | (refine ⟨trivial, ?_⟩; gi_at_call 102; refine (CallsIn.inRound l (strided_in Fence.wide 9 trivial rfl _ _ _)).mono ?_; rintro e w' ⟨rfl, rfl⟩))
      obtain ⟨G, hG⟩ : ∃ G, G = eachF b s f pre := ⟨_, rfl⟩
      obtain ⟨M, hM⟩ : ∃ M : Nat → Int, M = fun j => accW (getAll (eachF b s f pre) (x.val * b) s (List.finRange 8)) j 8 := ⟨_, rfl⟩
      have hsW3 := HKF.out.size
      have l3 : W.heap.size < w3.heap.size := HM.out.lt (by omega)
      have A3 := (HM.out.alloc (.cells #[.int .i64 (((x : Nat) : Int) * b)] 3)).alloc (.cells #[.int .i64 s] 3)
      have n3 := (Boxed.new w3 3 (.int .i64 (((x : Nat) : Int) * b))).alloc (.cells #[.int .i64 s] 3)
      have n4 := Boxed.new (w3.alloc (.cells #[.int .i64 (((x : Nat) : Int) * b)] 3)) 3 (.int .i64 s)
      simp only [World.size_alloc] at n4
      have hW4 : ((w3.alloc (.cells #[.int .i64 (((x : Nat) : Int) * b)] 3)).alloc (.cells #[.int .i64 s] 3)).heap.size = w3.heap.size + 2 := by simp
      have hG4 : w3.grownBy ((w3.alloc (.cells #[.int .i64 (((x : Nat) : Int) * b)] 3)).alloc (.cells #[.int .i64 s] 3)) none := grown_of_below (((Below.refl w3.heap.size w3).alloc (Nat.le_refl _) _).alloc (by simp) _) none
      obtain ⟨W4, hW4e⟩ : ∃ W4, ((w3.alloc (.cells #[.int .i64 (((x : Nat) : Int) * b)] 3)).alloc (.cells #[.int .i64 s] 3)) = W4 := ⟨_, rfl⟩
      rw [hW4e] at A3 n3 n4 hW4 hG4 ⊢
      clear hW4e
      rw [← hM] at A3
      have HH4 : Hid (Held w gb gw s G W4) := Lib.hid (by rw [hG]; exact HH2.out.grown hG4 hgb hgw (fun _ e => by cases e))
      have hr4 : W4.heap[l]? = some (.loop r) := (hG4.block l (Array.getElem?_eq_some_iff.1 hr3.out).1 (by simp)).trans hr3.out
      have K4 : Kp2 (w.heap.size + 1 + 1 + 1) (w.heap.size + 1 + 1 + 1 + 1) 3 0 b W W4 := kp2_t HK1.out (kp2_grown hG4 (by simp) (by simp))
      have KF4 : KeepsFrom W0.heap.size W W4 := HKF.out.trans (KeepsFrom.of_grownBy hG4 (fun _ e => by cases e))
      have FIN : Hid (putAll M (x.val * b) s (List.finRange 8) G = eachF b s f (pre ++ [x])) := Lib.hid (by rw [eachF_snoc, hG, hM]; rfl)
      refine wpIn_rangeFunc_ownN (l₀ := l) (r₀ := r) rfl hr4 (by omega) (gf := 119) (lb := #[.pointer (some ⟨w3.heap.size, 0, none⟩), .pointer (some ⟨w3.heap.size + 1, 0, none⟩)]) rfl trivial (enters_of Tryz.func119 (by kernel_rfl) rfl)
        ((strided_stops Fence.wide 9 trivial rfl (by omega) w3.heap.size (w3.heap.size + 1) (((x : Nat) : Int) * b) s (by omega) (by omega) W4 n3 n4).inRound l) kp2_t kp2_b (Below.refl _ _) (fun _ => rfl)
        (fun pre' W' => (Arr W' .i64 W.heap.size 8 M ∧ Held w gb gw s (putAll M (x.val * b) s pre' G) W') ∧ (Kp2 (w.heap.size + 1 + 1 + 1) (w.heap.size + 1 + 1 + 1 + 1) 3 0 b W W' ∧ KeepsFrom W0.heap.size W W'))
        (fun _ _ _ => False)
        (OwnFrom.and (OwnFrom.and (ownFrom_arr .i64 W.heap.size 8 (fun _ => M) (by omega)) (ownFrom_held (fun pre' => putAll M (x.val * b) s pre' G) hgb hgw (by omega))) (OwnFrom.and (ownFrom_kp2 (by omega) (by omega)) (ownFrom_keepsFrom (by omega))))
        (fun _ _ _ _ _ hs _ _ => hs)
        ⟨⟨A3, HH4.out⟩, K4, KF4⟩
        (fun y a' _ => a' = { tmps := #[.pointer (some ⟨gb, 0, none⟩), .int .i64 b, .int .i64 s, .pointer (some ⟨gw, 0, none⟩), .pointer (some ⟨w.heap.size, 0, none⟩), undef, .pointer (some ⟨w.heap.size + 1, 0, none⟩), .pointer (some ⟨w.heap.size + 1 + 1, 0, none⟩), undef, .int .i64 (((x : Nat) : Int) * b), .pointer (some ⟨W.heap.size, 0, none⟩), undef, undef, .int .i64 ((y : Nat) : Int), .int .i64 (((x : Nat) : Int) * b + ((y : Nat) : Int) * s), .int .i64 b, .func (.func 119) #[] #[.pointer (some ⟨w.heap.size + 1 + 1 + 1, 0, none⟩), .pointer (some ⟨w.heap.size + 1 + 1 + 1 + 1, 0, none⟩)], .int .i64 ((x : Nat) : Int), .int .i64 (((x : Nat) : Int) * b), .int .i64 (((x : Nat) : Int) * b), .int .i64 s, .func (.func 119) #[] #[.pointer (some ⟨W.heap.size + 1, 0, none⟩), .pointer (some ⟨W.heap.size + 1 + 1, 0, none⟩)], undef, undef, undef, undef, undef, undef, undef, undef, undef, .agg (rowOf .i64 8 (getAll (eachF b s f pre) (x.val * b) s (List.finRange 8))), .pointer (some ⟨gw, 0, none⟩), .agg (rowOf .i64 8 (fun j => accW (getAll (eachF b s f pre) (x.val * b) s (List.finRange 8)) j 8)), .int .i64 (((x : Nat) : Int) * b), .int .i64 s, .func (.func 119) #[] #[.pointer (some ⟨w3.heap.size, 0, none⟩), .pointer (some ⟨w3.heap.size + 1, 0, none⟩)], .int .i64 ((y : Nat) : Int), .int .i64 (((x : Nat) : Int) * b + ((y : Nat) : Int) * s), undef, undef, undef, undef, undef, undef, undef], defers := [] })
        (fun _ _ _ _ _ _ hs _ _ => hs)
        ?assign3 ?body3 ?done3 ?stop3
      case assign3 =>
        rintro l2 pre' y W' K h hK
        gi_wp2
        exact hK _ _ (KeepsFrom.refl _ _) (kp2_refl _) h rfl
      case body3 =>
        rintro l2 pre' y a'' W' hl2 ⟨r2, hr2⟩ ⟨⟨hA, hH⟩, hK1, hKF⟩ rfl hlt2
        clear hM hG
        obtain ⟨q, hq⟩ : ∃ q, q = x.val * b + y.val * s := ⟨_, rfl⟩
        have q64 : q < 64 := by have := x.2; have := y.2; rcases hbs with ⟨rfl, rfl⟩ | ⟨rfl, rfl⟩ <;> omega
        have qe : ((x : Nat) : Int) * b + ((y : Nat) : Int) * s = (q : Int) := by rw [hq]; push_cast; rfl
        have y8 : (0 : Int) ≤ ((y : Nat) : Int) ∧ ((y : Nat) : Int) < 8 := by have := y.2; omega
        have qb : (0 : Int) ≤ (q : Int) ∧ (q : Int) < 64 := by omega
        have cb := hH.2.1.1.cell
        have cg := hH.1.1 q q64
        have cl := (hA y.val y.2).1
        have hg := grown_set (World.grownBy.refl W' (some gb)) q (.int .i64 (M y.val))
        have hH3 : Held w gb gw s (putAll M (x.val * b) s (pre' ++ [y]) G) (W'.setCell ⟨gb, q, none⟩ (.int .i64 (M y.val))) := by rw [putAll_snoc, ← hq]; exact hH.set hgb hne q _
        have hA3 := hA.grown hg (fun e => by have := Option.some.inj e; omega)
        have HA3 := Lib.hid hA3
        have HH3 := Lib.hid hH3
        have HG := Lib.hid hg
        have HK1 := Lib.hid hK1
        have HKF := Lib.hid hKF
        clear hA hH hK1 hKF hA3 hH3 hq hg
        gi_wp2
        gi_region
        all_goals gi_wp2
        all_goals exact ⟨((KeepsOthers.setCell _ _ _).trans (KeepsOthers.drew _)).from _, kp2_t (kp2_grown HG.out (fun e => by have := Option.some.inj e; omega) (fun e => by have := Option.some.inj e; omega)) (kp2_grown (grown_of_below ((Below.refl _ _).drew) none) (by simp) (by simp)), ⟨HA3.out.drew, HH3.out.drew hgb hgw⟩, kp2_t (kp2_t HK1.out (kp2_grown HG.out (fun e => by have := Option.some.inj e; omega) (fun e => by have := Option.some.inj e; omega))) (kp2_grown (grown_of_below ((Below.refl _ _).drew) none) (by simp) (by simp)), HKF.out.trans (((KeepsOthers.setCell _ _ _).trans (KeepsOthers.drew _)).from _)⟩
      case done3 =>
        rintro ys W' rfl ⟨⟨hA, hH⟩, hK1, hKF⟩
        rw [FIN.out] at hH
        gi_wp2
        exact ⟨hKF, hK1, hH⟩
      case stop3 =>
        rintro c pre' W' _ h
        exact h.elim
    case stop2 =>
      rintro c pre' W' _ h
      exact h.elim
  case done =>
    rintro D ys W hD rfl hH hK
    gi_wp2
    have hH2 := hH.grown (grownBy_putObj' W D (.deferred none)) hgb hgw (fun r e => by cases e; omega)
    refine ⟨by simp, .inl ⟨_, _, rfl, run_takeDeferred hK, ?_⟩⟩
    exact ⟨_, results_none rfl _ _ _, rfl, hH2.1.1, hH2.2.2⟩
  case stop =>
    rintro D c pre W _ _ h _
    exact h.elim
end Co
end Go.Proofs.YtpibeocngkjolaaGreatDoor
