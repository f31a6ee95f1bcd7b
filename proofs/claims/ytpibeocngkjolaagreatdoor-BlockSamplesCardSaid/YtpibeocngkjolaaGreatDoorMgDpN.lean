/- A range over a function that itself ranges over a function: the caller's law; what a round keeps may name the loop's own record. | A range over a function whose rounds are numbered; the iterator writes two blocks, b1 and b2, and tells the world at its end. -/
import Derived.Test.YtpibeocngkjolaaGreatDoorMgRegIn
import Derived.RangeFuncBound
import Derived.RangeFuncCalls
import Derived.RangeFuncLeaves
import Derived.RangeFuncNested
set_option linter.unusedVariables false
set_option linter.unusedSimpArgs false

namespace Go.Proofs.YtpibeocngkjolaaGreatDoor
open Go.RowKit
set_option linter.unusedSimpArgs false
set_option linter.unusedVariables false
section
variable {n : Nat} {P : Program}

/-- an iterator's contract; the caller's invariants abide whatever is no cells and laid since. -/
def SeqN {α : Type} (n : Nat) (P : Program) (g : Nat) (lb : Array Value) (encs : α → Array Value) (Kp : Nat → World → World → Prop) (S Sp : List α → Prop) (N : Nat) (w : World) : Prop :=
  ∀ (l : Nat) (J Jx : List α → World → Prop) (W : World), Below w.heap.size w W → w.heap.size ≤ l → l < W.heap.size → OwnFrom W.heap.size J → OwnFrom W.heap.size Jx →
    (∀ pre x W1, J pre W1 → pre.length < N → YieldAt Fence.wide (n - 1) P l (encs x) W1 fun e W' =>
      (e = .returned (.bool true) ∧ J (pre ++ [x]) W' ∧ Kp l W1 W') ∨ (e = .returned (.bool false) ∧ Jx (pre ++ [x]) W' ∧ Kp l W1 W')) →
    J [] W →
    CallsIn Fence.wide n P g (#[.func (.yield l) #[] #[]] ++ lb) W fun e W' => (∃ v, e = .returned v) ∧ ((∃ xs, S xs ∧ J xs W') ∨ (∃ pre, Sp pre ∧ Jx pre W'))
/-- how a round may be left: what it keeps is paid at each way out. -/
def postN {α : Type} (B : Nat) (Kp : World → World → Prop) (I : List α → World → Prop) (Ix : Code → List α → World → Prop) (xs : List α) (W : World) : Exit → Act → World → Prop
  | .normal, _, W' => KeepsFrom B W W' ∧ Kp W W' ∧ I xs W'
  | .ret, _, W' => KeepsFrom B W W' ∧ Kp W W' ∧ Ix .ret xs W'
  | .exit id, _, W' => KeepsFrom B W W' ∧ Kp W W' ∧ Ix (.exit id) xs W'
  | .goto t, _, W' => KeepsFrom B W W' ∧ Kp W W' ∧ Ix (.goto t) xs W'
  | .panic _, _, _ => False
  | .outgrown, _, _ => False
theorem yield_wide {m m' l r : Nat} {args : Array Value} {W : World} {R : Ending → World → Prop} (h : YieldAt Fence.wide m P l args W R) :
    ∃ fn tmps assign body, (Instr.yield l args).run P W = .ok (.round l fn tmps assign body) W ∧ RoundIn (Fence.wide.inRound r) m' P l fn tmps assign body W R ∧ RoundIn Fence.wide m' P l fn tmps assign body W R := by
  obtain ⟨fn, tmps, assign, body, h1, h2⟩ := h
  exact ⟨fn, tmps, assign, body, h1, ⟨h2.1, fun c cs _ => h2.2 c cs (room_wide _)⟩, ⟨h2.1, fun c cs _ => h2.2 c cs (room_wide _)⟩⟩
theorem rangeN {α : Type} {g : Operand} {ps : Array Tmp} {assign body : Code} {Q : Exit → Act → World → Prop} {a : Act} {w : World} {gf : Nat} {lb : Array Value} (hg : a.eval g = .func (.func gf) #[] lb)
    (eg : ∀ args w, (callFunc gf args).run P w = .ok (.enter gf args) w) {encs : α → Array Value} {Kp : Nat → World → World → Prop} {S Sp : List α → Prop} {N : Nat} (hseq : SeqN (n - 1) P gf lb encs Kp S Sp N w)
    (hKt : ∀ {l : Nat} {A B C : World}, Kp l A B → Kp l B C → Kp l A C) (hKl : ∀ (l : Nat) (W : World) (o o' : Obj), W.heap[l]? = some o → o.isCells = false → Kp l W (W.putObj l o')) (hps : ∀ x, (encs x).size = ps.size)
    (I : List α → World → Prop) (Ix : Code → List α → World → Prop) (hI : OwnFrom w.heap.size I) (hIx : ∀ c, OwnFrom w.heap.size (Ix c)) (h0 : I [] w) (Ax : α → Act → World → Prop) (hAx : ∀ x a', OwnFrom w.heap.size (fun (_ : Unit) W => Ax x a' W))
    (hassign : ∀ (l : Nat) (pre : List α) (x : α) (W : World) (K : Act → World → Prop), w.heap.size + 2 ≤ W.heap.size → l = w.heap.size + 1 → I pre W → (∀ a' W', KeepsFrom w.heap.size W W' → Kp l W W' → I pre W' → Ax x a' W' → K a' W') →
      assign.wpIn (Fence.wide.inRound l) (n - 1 - 1) P (Exit.then K (fun _ _ _ => False)) { tmps := (ps.zip (encs x)).foldl (fun t (p, v) => t.setIfInBounds p v) a.tmps, defers := [] } W)
    (hbody : ∀ (l : Nat) (pre : List α) (x : α) (a' : Act) (W : World), l = w.heap.size + 1 → (∃ r, W.heap[l]? = some (.loop r)) → I pre W → Ax x a' W → pre.length < N → body.wpIn (Fence.wide.inRound l) (n - 1 - 1) P (postN w.heap.size (Kp l) I Ix (pre ++ [x]) W) a' W)
    (hdone : ∀ (D : Nat) (xs : List α) (W : World), w.heap.size ≤ D → S xs → I xs W → W.heap[D]? = some (.deferred (some [])) → Q .normal { a with defers := { target := .collected D, args := #[] } :: a.defers } W)
    (hstop : ∀ (D : Nat) (c : Code) (pre : List α) (W : World), w.heap.size ≤ D → Sp pre → Ix c pre W → W.heap[D]? = some (.deferred (some [])) → c.wpIn Fence.wide n P Q { a with defers := { target := .collected D, args := #[] } :: a.defers } W) :
    (Code.rangeFunc g ps assign body).wpIn Fence.wide n P Q a w := by
  refine wpIn_rangeFunc fun fn hfn => ?_
  obtain ⟨D, hD⟩ : ∃ D, D = w.heap.size := ⟨_, rfl⟩
  obtain ⟨mk, hmk⟩ : ∃ mk : LoopState → Option Code → Loop, mk = fun st pe => { state := st, pending := pe, fn, tmps := a.tmps, params := ps, assign, body, defers := w.heap.size } := ⟨_, rfl⟩
  have mst : ∀ st pe, (mk st pe).state = st := fun st pe => by rw [hmk]
  have mpe : ∀ st pe, (mk st pe).pending = pe := fun st pe => by rw [hmk]
  have mset : ∀ st pe st' pe', ({ mk st pe with state := st', pending := pe' } : Loop) = mk st' pe' := fun st pe st' pe' => by rw [hmk]
  have mset1 : ∀ st pe st', ({ mk st pe with state := st' } : Loop) = mk st' pe := fun st pe st' => by rw [hmk]
  obtain ⟨W1, hW1⟩ : ∃ W1, (w.alloc (.deferred (some []))).alloc (.loop (mk .ready none)) = W1 := ⟨_, rfl⟩
  have sW1 : W1.heap.size = D + 2 := by rw [← hW1, hD]; simp
  have bW1 : Below w.heap.size w W1 := by rw [← hW1]; exact ((Below.refl _ w).alloc (Nat.le_refl _) _).alloc (by simp) _
  have rec1 : W1.heap[D + 1]? = some (.loop (mk .ready none)) := by
    rw [← hW1, hD]; have := World.alloc_heap_new (w.alloc (.deferred (some []))) (.loop (mk .ready none)); rwa [World.size_alloc] at this
  have def1 : W1.heap[D]? = some (.deferred (some [])) := by
    rw [← hW1, hD]; exact (Below.heap_alloc _ _ _ (by simp)).trans (World.alloc_heap_new w _)
  have own1 : I [] W1 := by rw [← hW1]; exact hI.alloc _ (hI.alloc _ h0)
  have far : ∀ {A B : World} {row : Option Nat} {k : Nat} {o : Obj}, A.grownBy B row → (∀ r, row = some r → W1.heap.size ≤ r ∧ ∃ o : Obj, A.heap[r]? = some o ∧ o.isCells = false) → k < D + 2 → A.heap[k]? = some o → B.heap[k]? = some o := fun hg hr hk ho =>
    (hg.block _ (Array.getElem?_eq_some_iff.1 ho).1 (fun e => by have := (hr _ e.symm).1; omega)).trans ho
  refine ⟨D + 1, [{ target := .collected D, args := #[] }], W1, { target := .fn (.func gf) lb, args := #[.func (.yield (D + 1)) #[] #[]] }, W1, gf, #[.func (.yield (D + 1)) #[] #[]] ++ lb, W1, ?_, ?_, fun _ _ => trivial, ?_, fun h => (by cases h), ?_⟩
  · rw [← hW1, hmk, hD]; exact run_enterLoop_outer _ _ _ _ _
  · simp only [resolve, hg]; simp [go_sem]
  · simp [invoke, go_sem, eg]
  · refine (hseq (D + 1) (fun pre W => I pre W ∧ W.heap[D + 1]? = some (.loop (mk .ready none)) ∧ W.heap[D]? = some (.deferred (some [])))
      (fun pre W => ∃ c, Ix c pre W ∧ W.heap[D + 1]? = some (.loop (mk .done (some c))) ∧ W.heap[D]? = some (.deferred (some []))) W1 bW1 (by omega) (by omega)
      (fun s A B row hs hg' hr => ⟨hI s A B row hs.1 hg' (fun r e => ⟨by have := (hr r e).1; omega, (hr r e).2⟩), far hg' hr (by omega) hs.2.1, far hg' hr (by omega) hs.2.2⟩)
      (fun s A B row ⟨c, h1, h2, h3⟩ hg' hr => ⟨c, hIx c s A B row h1 hg' (fun r e => ⟨by have := (hr r e).1; omega, (hr r e).2⟩), far hg' hr (by omega) h2, far hg' hr (by omega) h3⟩)
      ?_ ⟨own1, rec1, def1⟩).mono ?_
    · rintro pre x W ⟨hi, hl, hk⟩ hlen
      have hlt : D + 1 < W.heap.size := (Array.getElem?_eq_some_iff.1 hl).1
      have hy := run_yield (P := P) (args := encs x) hl (by rw [hmk]; exact hps x)
      rw [hmk] at hy
      refine ⟨fn, _, assign, body, hy, roundIn_of_wpIn hfn (hassign (D + 1) pre x W _ (by omega) (by omega) hi ?_)⟩
      clear hy
      intro a' Wa kfa kpa ia ax
      have hla := kfa.same _ _ (by omega) hl rfl
      have hka := kfa.same _ _ (by omega) hk rfl
      have hlta : D + 1 < Wa.heap.size := (Array.getElem?_eq_some_iff.1 hla).1
      refine ⟨_, run_beginRound hla (mst _ _), ?_⟩
      rw [mset1]
      have hl2 : (Wa.putObj (D + 1) (.loop (mk .busy none))).heap[D + 1]? = some (.loop (mk .busy none)) := World.putObj_heap_same hlta
      have hk2 : (Wa.putObj (D + 1) (.loop (mk .busy none))).heap[D]? = some (.deferred (some [])) := (World.putObj_heap_other (by omega)).trans hka
      have kp2 : Kp (D + 1) Wa (Wa.putObj (D + 1) (.loop (mk .busy none))) := hKl _ _ _ _ hla rfl
      refine wpIn_mono (hbody (D + 1) pre x a' _ (by omega) ⟨_, hl2⟩ (hI.putObj _ ia (by omega) hla rfl) ((hAx x a').putObj (s := ()) _ ax (by omega) hla rfl) hlen) ?_
      have fin : ∀ (jump : Option Code) (W3 : World), KeepsFrom w.heap.size (Wa.putObj (D + 1) (.loop (mk .busy none))) W3 →
          (Instr.endRound (D + 1) jump).run P W3 = .ok (.bool jump.isNone) (W3.putObj (D + 1) (.loop (mk (if jump.isNone then .ready else .done) jump))) ∧ W3.heap[D + 1]? = some (.loop (mk .busy none)) ∧
          (W3.putObj (D + 1) (.loop (mk (if jump.isNone then .ready else .done) jump))).heap[D + 1]? = some (.loop (mk (if jump.isNone then .ready else .done) jump)) ∧
          (W3.putObj (D + 1) (.loop (mk (if jump.isNone then .ready else .done) jump))).heap[D]? = some (.deferred (some [])) := fun jump W3 hk3 => by
        have hl3 := hk3.same _ _ (by omega) hl2 rfl
        have h5 := run_endRound (P := P) jump hl3
        rw [mset] at h5
        exact ⟨h5, hl3, World.putObj_heap_same (Array.getElem?_eq_some_iff.1 hl3).1, (World.putObj_heap_other (by omega)).trans (hk3.same _ _ (by omega) hk2 rfl)⟩
      rintro e a3 W3 hp
      cases e with
      | normal =>
        obtain ⟨k3, kp3, i3⟩ := hp
        obtain ⟨hr, hl3, hl4, hk4⟩ := fin none W3 k3
        exact ⟨_, _, hr, .inl ⟨rfl, ⟨hI.putObj _ i3 (by omega) hl3 rfl, hl4, hk4⟩, hKt kpa (hKt kp2 (hKt kp3 (hKl _ _ _ _ hl3 rfl)))⟩⟩
      | ret =>
        obtain ⟨k3, kp3, i3⟩ := hp
        obtain ⟨hr, hl3, hl4, hk4⟩ := fin (some .ret) W3 k3
        exact ⟨_, _, hr, .inr ⟨rfl, ⟨.ret, (hIx _).putObj _ i3 (by omega) hl3 rfl, hl4, hk4⟩, hKt kpa (hKt kp2 (hKt kp3 (hKl _ _ _ _ hl3 rfl)))⟩⟩
      | exit id =>
        obtain ⟨k3, kp3, i3⟩ := hp
        obtain ⟨hr, hl3, hl4, hk4⟩ := fin (some (.exit id)) W3 k3
        exact ⟨_, _, hr, .inr ⟨rfl, ⟨.exit id, (hIx _).putObj _ i3 (by omega) hl3 rfl, hl4, hk4⟩, hKt kpa (hKt kp2 (hKt kp3 (hKl _ _ _ _ hl3 rfl)))⟩⟩
      | goto t =>
        obtain ⟨k3, kp3, i3⟩ := hp
        obtain ⟨hr, hl3, hl4, hk4⟩ := fin (some (.goto t)) W3 k3
        exact ⟨_, _, hr, .inr ⟨rfl, ⟨.goto t, (hIx _).putObj _ i3 (by omega) hl3 rfl, hl4, hk4⟩, hKt kpa (hKt kp2 (hKt kp3 (hKl _ _ _ _ hl3 rfl)))⟩⟩
      | panic ch => exact hp.elim
      | outgrown => exact hp.elim
    · rintro e W2 ⟨⟨v, rfl⟩, (⟨xs, hS, hi, hl, hk⟩ | ⟨pre, hSp, c, hi, hl, hk⟩)⟩
      · refine ⟨none, _, by have h5 := run_endLoop (P := P) hl (by rw [mst]; simp); rw [mpe] at h5; exact h5, ?_⟩
        exact hdone D xs _ (by omega) hS (hI.putObj _ hi (by omega) hl rfl) ((World.putObj_heap_other (by omega)).trans hk)
      · refine ⟨some c, _, by have h5 := run_endLoop (P := P) hl (by rw [mst]; simp); rw [mpe] at h5; exact h5, ?_⟩
        exact hstop D c pre _ (by omega) hSp ((hIx c).putObj _ hi (by omega) hl rfl) ((World.putObj_heap_other (by omega)).trans hk)
end
end Go.Proofs.YtpibeocngkjolaaGreatDoor

namespace Go.Proofs.YtpibeocngkjolaaGreatDoor
open Go.RowKit
section
variable {n : Nat} {P : Program}

/-- how a round may be left. -/
def postC (B : Nat) (Kp : World → World → Prop) (I : Nat → World → Prop) (Ix : Code → Nat → World → Prop) (k : Nat) (W : World) : Exit → Act → World → Prop
  | .normal, _, W' => KeepsFrom B W W' ∧ Kp W W' ∧ I (k + 1) W'
  | .ret, _, W' => KeepsFrom B W W' ∧ Kp W W' ∧ Ix .ret k W'
  | .exit id, _, W' => KeepsFrom B W W' ∧ Kp W W' ∧ Ix (.exit id) k W'
  | .goto t, _, W' => KeepsFrom B W W' ∧ Kp W W' ∧ Ix (.goto t) k W'
  | .panic _, _, _ => False
  | .outgrown, _, _ => False
/-- an iterator's contract. -/
def SeqC (n : Nat) (P : Program) (g : Nat) (lb : Array Value) (encs : Nat → Array Value) (Kp : Nat → World → World → Prop) (S : Nat → World → Prop) (Y : Nat → Prop) (N b1 b2 : Nat) (w : World) : Prop :=
  ∀ (l : Nat) (J Jx : Nat → World → Prop) (W : World), Below w.heap.size w W → w.heap.size ≤ l → l < W.heap.size → OwnFrom W.heap.size J → OwnFrom W.heap.size Jx → (∀ b, b = b1 ∨ b = b2 → ∀ k A C, J k A → A.grownBy C (some b) → J k C) →
    (∀ k W1, J k W1 → k < N → Y k → YieldAt Fence.wide (n - 1) P l (encs k) W1 fun e W' =>
      (e = .returned (.bool true) ∧ J (k + 1) W' ∧ Kp l W1 W') ∨ (e = .returned (.bool false) ∧ Jx k W' ∧ Kp l W1 W')) →
    J 0 W →
    CallsIn Fence.wide n P g (#[.func (.yield l) #[] #[]] ++ lb) W fun e W' => (∃ v, e = .returned v) ∧ ((∃ k, S k W' ∧ J k W') ∨ (∃ k, Jx k W'))
theorem rangeC {g : Operand} {ps : Array Tmp} {assign body : Code} {Q : Exit → Act → World → Prop} {a : Act} {w : World} {gf : Nat} {lb : Array Value} (hg : a.eval g = .func (.func gf) #[] lb)
    (eg : ∀ args w, (callFunc gf args).run P w = .ok (.enter gf args) w) {encs : Nat → Array Value} {Kp : Nat → World → World → Prop} {S : Nat → World → Prop} {Y : Nat → Prop} {N b1 b2 : Nat} (hseq : SeqC (n - 1) P gf lb encs Kp S Y N b1 b2 w) (hS : OwnFrom w.heap.size S) (hB1 : b1 < w.heap.size) (hB2 : b2 < w.heap.size)
    (hKt : ∀ {l : Nat} {A B C : World}, Kp l A B → Kp l B C → Kp l A C) (hKl : ∀ (l : Nat) (W : World) (o o' : Obj), W.heap[l]? = some o → o.isCells = false → Kp l W (W.putObj l o')) (hps : ∀ x, (encs x).size = ps.size)
    (I : Nat → World → Prop) (Ix : Code → Nat → World → Prop) (hI : OwnFrom w.heap.size I) (hIx : ∀ c, OwnFrom w.heap.size (Ix c)) (hIB : ∀ b, b = b1 ∨ b = b2 → ∀ k A C, I k A → A.grownBy C (some b) → I k C) (h0 : I 0 w) (Ax : Nat → Act → World → Prop) (hAx : ∀ x a', OwnFrom w.heap.size (fun (_ : Unit) W => Ax x a' W))
    (hassign : ∀ (l : Nat) (x : Nat) (W : World) (K : Act → World → Prop), w.heap.size + 2 ≤ W.heap.size → l = w.heap.size + 1 → x < N → I x W → (∀ a' W', KeepsFrom w.heap.size W W' → Kp l W W' → I x W' → Ax x a' W' → K a' W') →
      assign.wpIn (Fence.wide.inRound l) (n - 1 - 1) P (Exit.then K (fun _ _ _ => False)) { tmps := (ps.zip (encs x)).foldl (fun t (p, v) => t.setIfInBounds p v) a.tmps, defers := [] } W)
    (hbody : ∀ (l : Nat) (x : Nat) (a' : Act) (W : World), l = w.heap.size + 1 → (∃ r, W.heap[l]? = some (.loop r)) → I x W → Ax x a' W → x < N → Y x → body.wpIn (Fence.wide.inRound l) (n - 1 - 1) P (postC w.heap.size (Kp l) I Ix x W) a' W)
    (hdone : ∀ (D : Nat) (xs : Nat) (W : World), w.heap.size ≤ D → S xs W → I xs W → W.heap[D]? = some (.deferred (some [])) → Q .normal { a with defers := { target := .collected D, args := #[] } :: a.defers } W)
    (hstop : ∀ (D : Nat) (c : Code) (pre : Nat) (W : World), w.heap.size ≤ D → Ix c pre W → W.heap[D]? = some (.deferred (some [])) → c.wpIn Fence.wide n P Q { a with defers := { target := .collected D, args := #[] } :: a.defers } W) :
    (Code.rangeFunc g ps assign body).wpIn Fence.wide n P Q a w := by
  refine wpIn_rangeFunc fun fn hfn => ?_
  obtain ⟨D, hD⟩ : ∃ D, D = w.heap.size := ⟨_, rfl⟩
  obtain ⟨mk, hmk⟩ : ∃ mk : LoopState → Option Code → Loop, mk = fun st pe => { state := st, pending := pe, fn, tmps := a.tmps, params := ps, assign, body, defers := w.heap.size } := ⟨_, rfl⟩
  have mst : ∀ st pe, (mk st pe).state = st := fun st pe => by rw [hmk]
  have mpe : ∀ st pe, (mk st pe).pending = pe := fun st pe => by rw [hmk]
  have mset : ∀ st pe st' pe', ({ mk st pe with state := st', pending := pe' } : Loop) = mk st' pe' := fun st pe st' pe' => by rw [hmk]
  have mset1 : ∀ st pe st', ({ mk st pe with state := st' } : Loop) = mk st' pe := fun st pe st' => by rw [hmk]
  obtain ⟨W1, hW1⟩ : ∃ W1, (w.alloc (.deferred (some []))).alloc (.loop (mk .ready none)) = W1 := ⟨_, rfl⟩
  have sW1 : W1.heap.size = D + 2 := by rw [← hW1, hD]; simp
  have bW1 : Below w.heap.size w W1 := by rw [← hW1]; exact ((Below.refl _ w).alloc (Nat.le_refl _) _).alloc (by simp) _
  have rec1 : W1.heap[D + 1]? = some (.loop (mk .ready none)) := by
    rw [← hW1, hD]; have := World.alloc_heap_new (w.alloc (.deferred (some []))) (.loop (mk .ready none)); rwa [World.size_alloc] at this
  have def1 : W1.heap[D]? = some (.deferred (some [])) := by
    rw [← hW1, hD]; exact (Below.heap_alloc _ _ _ (by simp)).trans (World.alloc_heap_new w _)
  have own1 : I 0 W1 := by rw [← hW1]; exact hI.alloc _ (hI.alloc _ h0)
  have far : ∀ {A B : World} {row : Option Nat} {k : Nat} {o : Obj}, A.grownBy B row → (∀ r, row = some r → W1.heap.size ≤ r ∧ ∃ o : Obj, A.heap[r]? = some o ∧ o.isCells = false) → k < D + 2 → A.heap[k]? = some o → B.heap[k]? = some o := fun hg hr hk ho =>
    (hg.block _ (Array.getElem?_eq_some_iff.1 ho).1 (fun e => by have := (hr _ e.symm).1; omega)).trans ho
  refine ⟨D + 1, [{ target := .collected D, args := #[] }], W1, { target := .fn (.func gf) lb, args := #[.func (.yield (D + 1)) #[] #[]] }, W1, gf, #[.func (.yield (D + 1)) #[] #[]] ++ lb, W1, ?_, ?_, fun _ _ => trivial, ?_, fun h => (by cases h), ?_⟩
  · rw [← hW1, hmk, hD]; exact run_enterLoop_outer _ _ _ _ _
  · simp only [resolve, hg]; simp [go_sem]
  · simp [invoke, go_sem, eg]
  · refine (hseq (D + 1) (fun pre W => I pre W ∧ W.heap[D + 1]? = some (.loop (mk .ready none)) ∧ W.heap[D]? = some (.deferred (some [])))
      (fun pre W => ∃ c, Ix c pre W ∧ W.heap[D + 1]? = some (.loop (mk .done (some c))) ∧ W.heap[D]? = some (.deferred (some []))) W1 bW1 (by omega) (by omega)
      (fun s A B row hs hg' hr => ⟨hI s A B row hs.1 hg' (fun r e => ⟨by have := (hr r e).1; omega, (hr r e).2⟩), far hg' hr (by omega) hs.2.1, far hg' hr (by omega) hs.2.2⟩)
      (fun s A B row ⟨c, h1, h2, h3⟩ hg' hr => ⟨c, hIx c s A B row h1 hg' (fun r e => ⟨by have := (hr r e).1; omega, (hr r e).2⟩), far hg' hr (by omega) h2, far hg' hr (by omega) h3⟩)
      (fun b hb pre A C ⟨j1, j2, j3⟩ hg => ⟨hIB b hb pre A C j1 hg, (hg.block _ (Array.getElem?_eq_some_iff.1 j2).1 (fun e => by have := Option.some.inj e; omega)).trans j2, (hg.block _ (Array.getElem?_eq_some_iff.1 j3).1 (fun e => by have := Option.some.inj e; omega)).trans j3⟩)
      ?_ ⟨own1, rec1, def1⟩).mono ?_
    · rintro x W ⟨hi, hl, hk⟩ hlen hYx
      have hlt : D + 1 < W.heap.size := (Array.getElem?_eq_some_iff.1 hl).1
      have hy := run_yield (P := P) (args := encs x) hl (by rw [hmk]; exact hps x)
      rw [hmk] at hy
      refine ⟨fn, _, assign, body, hy, roundIn_of_wpIn hfn (hassign (D + 1) x W _ (by omega) (by omega) hlen hi ?_)⟩
      clear hy
      intro a' Wa kfa kpa ia ax
      have hla := kfa.same _ _ (by omega) hl rfl
      have hka := kfa.same _ _ (by omega) hk rfl
      have hlta : D + 1 < Wa.heap.size := (Array.getElem?_eq_some_iff.1 hla).1
      refine ⟨_, run_beginRound hla (mst _ _), ?_⟩
      rw [mset1]
      have hl2 : (Wa.putObj (D + 1) (.loop (mk .busy none))).heap[D + 1]? = some (.loop (mk .busy none)) := World.putObj_heap_same hlta
      have hk2 : (Wa.putObj (D + 1) (.loop (mk .busy none))).heap[D]? = some (.deferred (some [])) := (World.putObj_heap_other (by omega)).trans hka
      have kp2 : Kp (D + 1) Wa (Wa.putObj (D + 1) (.loop (mk .busy none))) := hKl _ _ _ _ hla rfl
      refine wpIn_mono (hbody (D + 1) x a' _ (by omega) ⟨_, hl2⟩ (hI.putObj _ ia (by omega) hla rfl) ((hAx x a').putObj (s := ()) _ ax (by omega) hla rfl) hlen hYx) ?_
      have fin : ∀ (jump : Option Code) (W3 : World), KeepsFrom w.heap.size (Wa.putObj (D + 1) (.loop (mk .busy none))) W3 →
          (Instr.endRound (D + 1) jump).run P W3 = .ok (.bool jump.isNone) (W3.putObj (D + 1) (.loop (mk (if jump.isNone then .ready else .done) jump))) ∧ W3.heap[D + 1]? = some (.loop (mk .busy none)) ∧
          (W3.putObj (D + 1) (.loop (mk (if jump.isNone then .ready else .done) jump))).heap[D + 1]? = some (.loop (mk (if jump.isNone then .ready else .done) jump)) ∧
          (W3.putObj (D + 1) (.loop (mk (if jump.isNone then .ready else .done) jump))).heap[D]? = some (.deferred (some [])) := fun jump W3 hk3 => by
        have hl3 := hk3.same _ _ (by omega) hl2 rfl
        have h5 := run_endRound (P := P) jump hl3
        rw [mset] at h5
        exact ⟨h5, hl3, World.putObj_heap_same (Array.getElem?_eq_some_iff.1 hl3).1, (World.putObj_heap_other (by omega)).trans (hk3.same _ _ (by omega) hk2 rfl)⟩
      rintro e a3 W3 hp
      cases e with
      | normal =>
        obtain ⟨k3, kp3, i3⟩ := hp
        obtain ⟨hr, hl3, hl4, hk4⟩ := fin none W3 k3
        exact ⟨_, _, hr, .inl ⟨rfl, ⟨hI.putObj _ i3 (by omega) hl3 rfl, hl4, hk4⟩, hKt kpa (hKt kp2 (hKt kp3 (hKl _ _ _ _ hl3 rfl)))⟩⟩
      | ret =>
        obtain ⟨k3, kp3, i3⟩ := hp
        obtain ⟨hr, hl3, hl4, hk4⟩ := fin (some .ret) W3 k3
        exact ⟨_, _, hr, .inr ⟨rfl, ⟨.ret, (hIx _).putObj _ i3 (by omega) hl3 rfl, hl4, hk4⟩, hKt kpa (hKt kp2 (hKt kp3 (hKl _ _ _ _ hl3 rfl)))⟩⟩
      | exit id =>
        obtain ⟨k3, kp3, i3⟩ := hp
        obtain ⟨hr, hl3, hl4, hk4⟩ := fin (some (.exit id)) W3 k3
        exact ⟨_, _, hr, .inr ⟨rfl, ⟨.exit id, (hIx _).putObj _ i3 (by omega) hl3 rfl, hl4, hk4⟩, hKt kpa (hKt kp2 (hKt kp3 (hKl _ _ _ _ hl3 rfl)))⟩⟩
      | goto t =>
        obtain ⟨k3, kp3, i3⟩ := hp
        obtain ⟨hr, hl3, hl4, hk4⟩ := fin (some (.goto t)) W3 k3
        exact ⟨_, _, hr, .inr ⟨rfl, ⟨.goto t, (hIx _).putObj _ i3 (by omega) hl3 rfl, hl4, hk4⟩, hKt kpa (hKt kp2 (hKt kp3 (hKl _ _ _ _ hl3 rfl)))⟩⟩
      | panic ch => exact hp.elim
      | outgrown => exact hp.elim
    · rintro e W2 ⟨⟨v, rfl⟩, (⟨xs, hSx, hi, hl, hk⟩ | ⟨pre, c, hi, hl, hk⟩)⟩
      · refine ⟨none, _, by have h5 := run_endLoop (P := P) hl (by rw [mst]; simp); rw [mpe] at h5; exact h5, ?_⟩
        exact hdone D xs _ (by omega) (hS.putObj _ hSx (by omega) hl rfl) (hI.putObj _ hi (by omega) hl rfl) ((World.putObj_heap_other (by omega)).trans hk)
      · refine ⟨some c, _, by have h5 := run_endLoop (P := P) hl (by rw [mst]; simp); rw [mpe] at h5; exact h5, ?_⟩
        exact hstop D c pre _ (by omega) ((hIx c).putObj _ hi (by omega) hl rfl) ((World.putObj_heap_other (by omega)).trans hk)
end
end Go.Proofs.YtpibeocngkjolaaGreatDoor
