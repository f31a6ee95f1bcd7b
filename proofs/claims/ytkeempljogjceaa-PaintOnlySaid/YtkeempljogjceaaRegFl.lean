/- A region that draws its order, in a round: quiet operations, one of which may come up as late as behind the first of the last ones (a list is loaded, its new element is made, it is appended, stored). -/
import Derived.Test.YtkeempljogjceaaRegIn
import Derived.OrdersHeld
namespace Go.Proofs.Ytkeempljogjceaa
open Go.RowKit
section
variable {m n : Nat} {P : Program} {ops : Array Oper} {md : Region.Mode} {Q : Exit → Act → World → Prop} {C : World → Prop}

/-- whatever order is picked; behind each of the first N operations the world is one of the class. -/
def wpAnyC (m : Nat) (P : Program) (md : Region.Mode) (ops : Array Oper) (Q : Exit → Act → World → Prop) (C : World → Prop) (N : Nat) : Nat → Array Bool → Act → World → Prop
  | 0, L, a, w => Region.ready md ops L = [] ∧ Q .normal a w
  | fuel + 1, L, a, w => (Region.ready md ops L = [] → Q .normal a w) ∧
    ∀ i ∈ Region.ready md ops L, wpOpIn Fence.wide m P ops Q i (fun a' w' => (i < N → C w') ∧ wpAnyC m P md ops Q C N fuel (L.setIfInBounds i true) a' w') a w
theorem any_of_C {N : Nat} : ∀ (fuel : Nat) (L : Array Bool) (a : Act) (w : World), wpAnyC m P md ops Q C N fuel L a w → wpAnyIn Fence.wide m P md ops Q fuel L a w
  | 0, _, _, _, h => h
  | fuel + 1, _, _, _, h => ⟨h.1, fun i hi => wpOpIn_mono (fun a' w' h' => any_of_C fuel _ a' w' h'.2) (h.2 i hi)⟩
/-- what is asked where all ends well. -/
def onlyN (Q : Exit → Act → World → Prop) : Exit → Act → World → Prop
  | .normal => Q .normal
  | _ => fun _ _ => False
theorem onlyN_sub {a : Act} {w : World} {F : Fence} {id : Nat} {d : Bool} (h : (Code.region id ops d).wpIn F m P (onlyN Q) a w) : (Code.region id ops d).wpIn F m P Q a w :=
  Code.wpIn_mono (fun e a w h => by cases e <;> first | exact h | exact h.elim) h
theorem opIn_put {j : Nat} {oi oj : Oper} {v : Value} (hj : ops[j]? = some oj) (hap : oi.apart ops oj = true) (hsi : ∀ cs b, oi.op ≠ .select cs b) (hsj : ∀ cs b, oj.op ≠ .select cs b)
    (hQ : ∀ c a w, Q (.panic c) (a.put oi.dst v) w → Q (.panic c) a w) {K : Act → World → Prop} {a : Act} {w : World}
    (hy : YieldsIf P ops C oi v a) (h : wpOpIn Fence.wide m P ops Q j K (a.put oi.dst v) w) :
    wpOpIn Fence.wide m P ops Q j (fun a' w' => YieldsIf P ops C oi v a' ∧ K (a'.put oi.dst v) w') a w := by
  obtain ⟨h1, h2, h3⟩ := Oper.apart_spec hap
  have keep : ∀ (a : Act), YieldsIf P ops C oi v a → ∀ u, YieldsIf P ops C oi v (a.put oj.dst u) := fun a hy u =>
    hy.of_same (execOp_put oi hsi a oj.dst u h3) (wanted_put oi a oj.dst u h3)
  unfold wpOpIn at *
  simp only [hj] at *
  rw [wanted_put oj a oi.dst v h1] at h
  split
  · rename_i hw
    simp only [hw, if_true, Oper.wpIn, Fence.wide_round, Oper.semAt_none] at h ⊢
    refine ⟨fun _ _ => trivial, ?_⟩
    have h := h.2
    rw [execOp_put oj hsj a oi.dst v h1] at h
    generalize (execOp a.eval oj).run P w = x at *
    cases x with
    | ok x w' =>
      cases x <;> simp only [Oper.uponIn] at h ⊢
      case value u => exact ⟨keep a hy u, by rw [← Act.put_comm a v u h2]; exact h⟩
      case skip => exact ⟨keep a hy _, by rw [← Act.put_comm a v undef h2]; exact h⟩
      case defer d =>
        have hy2 : YieldsIf P ops C oi v { a with defers := d :: a.defers } := hy.of_same rfl rfl
        refine ⟨keep _ hy2 _, ?_⟩
        rw [← Act.put_comm _ v undef h2, ← Act.put_defers]
        exact h
      case enter f args =>
        refine ⟨h.1, CallsIn.mono h.2 fun e w'' he => ?_⟩
        cases e with
        | returned u => exact ⟨keep a hy u, by rw [← Act.put_comm a v u h2]; exact he⟩
        | panicked c => exact hQ _ _ _ he
        | outgrown => exact he
      case row row args => exact ⟨h.1, RowsIn.mono h.2 fun u w'' he => ⟨keep a hy u, by rw [← Act.put_comm a v u h2]; exact he⟩⟩
      case round =>
        refine ⟨h.1, RoundIn.mono h.2 fun e w'' he => ?_⟩
        cases e with
        | returned u => exact ⟨keep a hy u, by rw [← Act.put_comm a v u h2]; exact he⟩
        | panicked c => exact hQ _ _ _ he
        | outgrown => exact he
    | halt x w' =>
      cases x <;> simp only [Oper.uponIn] at h ⊢
      case panic u => exact hQ _ _ _ h
  · rename_i hw
    simp only [hw] at h
    exact ⟨fun _ _ => trivial, keep a hy _, by rw [← Act.put_comm a v undef h2]; exact h.2⟩
theorem still_op {i : Nat} {o : Oper} {v : Value} {a : Act} {w : World} {K : Act → World → Prop} (hi : ops[i]? = some o) (hy : YieldsIf P ops C o v a) (hC : C w) (h : K (a.put o.dst v) w) : wpOpIn Fence.wide m P ops Q i K a w := by
  unfold wpOpIn
  simp only [hi]
  rcases hy with ⟨hw, hv⟩ | ⟨hw, rfl⟩
  · simp only [hw, if_true, Oper.wpIn, Fence.wide_round, Oper.semAt_none, hv w hC, Oper.uponIn]; exact ⟨fun _ _ => trivial, h⟩
  · simp only [hw, Bool.false_eq_true, if_false]; exact ⟨fun _ _ => trivial, h⟩
/-- an operation that only reads what the class holds may be taken first. -/
theorem firstC {N i : Nat} {oi : Oper} {v : Value} (hi : ops[i]? = some oi) (hsel : ∀ (j : Nat) (o : Oper) cs b, ops[j]? = some o → o.op ≠ .select cs b)
    (hs : Region.sinkB md ops N = true) (hc : Region.chainB md ops N = true) (hn : N < ops.size) (hiN : i < N) (hQ : ∀ c a w, Q (.panic c) (a.put oi.dst v) w → Q (.panic c) a w) :
    ∀ (fuel : Nat) (L : Array Bool) (a : Act) (w : World), HeadInv md ops N L →
      (∀ j oj, ops[j]? = some oj → j ≠ i → L.getD j true = false → (∀ e ∈ oj.after, Region.binds md e = true → e.on ≠ i) → oi.apart ops oj = true) →
      i ∈ Region.ready md ops L → YieldsIf P ops C oi v a → C w →
      wpAnyC m P md ops Q C N fuel (L.setIfInBounds i true) (a.put oi.dst v) w → wpAnyC m P md ops Q C N (fuel + 1) L a w := by
  intro fuel
  induction fuel with
  | zero =>
    intro L a w inv _ hr hy hC H
    refine ⟨fun h => (by rw [h] at hr; cases hr), fun j hj => ?_⟩
    by_cases hji : j = i
    · subst hji; exact still_op hi hy hC ⟨fun _ => hC, H⟩
    · have := ready_mono hj hji
      rw [H.1] at this
      cases this
  | succ fuel ih =>
    intro L a w inv hfree hr hy hC H
    have hun := (mem_ready.1 hr).1
    refine ⟨fun h => (by rw [h] at hr; cases hr), fun j hj => ?_⟩
    by_cases hji : j = i
    · subst hji; exact still_op hi hy hC ⟨fun _ => hC, H⟩
    · have hjN : j < N := by
        rcases Nat.lt_or_ge j N with h | h
        · exact h
        · exact absurd hj (tail_waits hs hc hn inv _ i rfl hiN hun j h)
      have h1 := H.2 j (ready_mono hj hji)
      obtain ⟨hjun, oj, hoj, hall⟩ := mem_ready.1 hj
      have hnot : ∀ e ∈ oj.after, Region.binds md e = true → e.on ≠ i := fun e he hb heq => by
        have h1 := hall e he hb
        rw [heq, getD_both hun] at h1
        cases h1
      have h2 := opIn_put hoj (hfree j oj hoj hji hjun hnot) (fun cs b => hsel i oi cs b hi) (fun cs b => hsel j oj cs b hoj) hQ hy h1
      have hfree' : ∀ k ok, ops[k]? = some ok → k ≠ i → (L.setIfInBounds j true).getD k true = false →
          (∀ e ∈ ok.after, Region.binds md e = true → e.on ≠ i) → oi.apart ops ok = true := fun k ok hk hki hun hno => by
        refine hfree k ok hk hki ?_ hno
        by_cases hjk : j = k
        · subst hjk; exact hjun
        · rw [getD_set_ne true hjk] at hun; exact hun
      refine wpOpIn_mono (fun a' w' h3 => ⟨h3.2.1, ih _ a' w' (inv.set hj hjN) hfree' (ready_mono hr (Ne.symm hji)) h3.1 (h3.2.1 hjN) ?_⟩) h2
      rw [Array.setIfInBounds_comm _ _ hji]
      exact h3.2.2
/-- the last ones, one behind the other, from N on. -/
theorem tail_anyC {N : Nat} (hk : backB md ops = true) (hc : Region.chainB md ops n = true) : ∀ (g k : Nat) (L : Array Bool) (a : Act) (w : World) (fuel : Nat), n ≤ k → N ≤ k → k + g = ops.size → L.size = ops.size → (∀ i, i < k → L.getD i false = true) →
    (∀ i, k ≤ i → i < ops.size → L.getD i true = false) → g ≤ fuel → wpOpsIn Fence.wide m P ops Q (List.range' k g) a w → wpAnyC m P md ops Q C N fuel L a w
  | 0, k, L, a, w, fuel, _, _, hg, hs, hl, _, _, h => by
    have hr : Region.ready md ops L = [] := by
      refine List.eq_nil_iff_forall_not_mem.2 fun i hi => ?_
      obtain ⟨h0, o, ho, _⟩ := mem_ready.1 hi
      have hlt : i < ops.size := (Array.getElem?_eq_some_iff.1 ho).1
      have h1 := hl i (by omega)
      rw [getD_both h0] at h1
      cases h1
    cases fuel with
    | zero => exact ⟨hr, h⟩
    | succ f => exact ⟨fun _ => h, fun i hi => by rw [hr] at hi; cases hi⟩
  | g + 1, k, L, a, w, fuel, hnk, hNk, hg, hs, hl, hu, hf, h => by
    obtain ⟨f, rfl⟩ : ∃ f, fuel = f + 1 := ⟨fuel - 1, by omega⟩
    have hklt : k < ops.size := by omega
    obtain ⟨hmem, honly⟩ := ready_one hk hc hnk hklt hs hl hu
    refine ⟨fun h0 => (by rw [h0] at hmem; cases hmem), fun i hi => ?_⟩
    obtain rfl := honly i hi
    rw [List.range'_succ, wpOpsIn_cons] at h
    refine wpOpIn_mono (fun a' w' h' => ⟨fun h0 => absurd h0 (by omega), tail_anyC hk hc g (i + 1) _ a' w' f (by omega) (by omega) (by omega) (by simp [hs]) (fun j hj => ?_) (fun j hj hj2 => ?_) (by omega) (by simpa using h')⟩) h
    · by_cases e : i = j
      · subst e; simp [hs, hklt]
      · exact getD_set_true (hl j (by omega))
    · rw [getD_set_ne true (by omega)]; exact hu j (by omega) hj2
def sinkZ (md : Region.Mode) (ops : Array Oper) (n : Nat) : Bool :=
  (List.range n).all fun i => (i == 0) || (List.range (n + 1)).any fun j => decide (i < j) && Region.waitsFor md ops j i
theorem tail_waits1 {n : Nat} {listed : Array Bool} (hs : sinkZ md ops n = true) (hc : Region.chainB md ops n = true) (hn : n < ops.size) (inv : HeadInv md ops n listed) :
    ∀ (d i : Nat), n - i = d → i < n → i ≠ 0 → listed.getD i true = false → ∀ t, n ≤ t → t ∉ Region.ready md ops listed := by
  intro d
  induction d using Nat.strongRecOn with
  | _ d ih =>
    intro i hd hi hi0 hun t ht hr
    obtain ⟨_, ot, hot, hall⟩ := mem_ready.1 hr
    have htlt : t < ops.size := (Array.getElem?_eq_some_iff.1 hot).1
    by_cases htn : t = n
    · have h1 := List.all_eq_true.1 hs i (List.mem_range.2 hi)
      simp only [Bool.or_eq_true, beq_iff_eq, hi0, false_or] at h1
      obtain ⟨j, hj, hj2⟩ := List.any_eq_true.1 h1
      simp only [Bool.and_eq_true, decide_eq_true_eq] at hj2
      obtain ⟨oj, hoj, e, he, hb, hon⟩ := Region.waitsFor_spec hj2.2
      have hjle : j ≤ n := by have := List.mem_range.1 hj; omega
      by_cases hjt : j = t
      · have h2 := hall e (by rw [hjt] at hoj; rw [← Option.some.inj (hoj.symm.trans hot)]; exact he) hb
        rw [hon, getD_both hun] at h2
        cases h2
      · cases hl : listed.getD j false with
        | true =>
          have h2 := inv.closed j oj hoj hl e he hb
          rw [hon, getD_both hun] at h2
          cases h2
        | false =>
          have hjs : j < listed.size := by rw [inv.size]; omega
          exact ih (n - j) (by omega) j rfl (by omega) (by omega) (getD_in hjs hl) t ht hr
    · have h1 := List.all_eq_true.1 hc t (List.mem_range.2 htlt)
      simp only [Bool.or_eq_true, decide_eq_true_eq] at h1
      rcases h1 with h1 | h1
      · omega
      · obtain ⟨o', ho', e, he, hb, hon⟩ := Region.waitsFor_spec h1
        have h2 := hall e (by rw [← Option.some.inj (ho'.symm.trans hot)]; exact he) hb
        rw [hon, getD_both (inv.tail (t - 1) (by omega) (by omega))] at h2
        cases h2
/-- behind the quiet ones: the first of the last ones, behind which the class is kept; then the others. -/
theorem split_anyC {Qa : Act → Prop} (hk : backB md ops = true) (hs : sinkZ md ops n = true) (hc : Region.chainB md ops n = true) (hn : n < ops.size)
    (hQa : ∀ a w, C w → Qa a → wpOpIn Fence.wide m P ops Q n (fun a' w' => C w' ∧ wpOpsIn Fence.wide m P ops Q (List.range' (n + 1) (ops.size - (n + 1))) a' w') a w) :
    ∀ (fuel : Nat) (L M : Array Bool) (a : Act) (w : World), HeadInv md ops n L → L.getD 0 false = true → Tailed n L M → C w →
    wpAnyQIn Fence.wide m P md ops C Qa fuel M a → wpAnyC m P md ops Q C (n + 1) (fuel + (ops.size - n)) L a w := by
  have fin : ∀ (L M : Array Bool) (a : Act) (w : World) (fuel : Nat), HeadInv md ops n L → Tailed n L M → C w → Region.ready md ops M = [] → Qa a → ops.size - n ≤ fuel → wpAnyC m P md ops Q C (n + 1) fuel L a w := by
    intro L M a w fuel inv ht hC hr hq hf
    have hl := head_over hk hn inv.size ht hr
    obtain ⟨f, rfl⟩ : ∃ f, fuel = f + 1 := ⟨fuel - 1, by omega⟩
    obtain ⟨hmem, honly⟩ := ready_one hk hc (Nat.le_refl n) hn inv.size hl (fun i h1 h2 => inv.tail i h1 h2)
    refine ⟨fun h0 => (by rw [h0] at hmem; cases hmem), fun i hi => ?_⟩
    obtain rfl := honly i hi
    refine wpOpIn_mono (fun a' w' h' => ⟨fun _ => h'.1, tail_anyC hk hc (ops.size - (i + 1)) (i + 1) _ a' w' f (by omega) (Nat.le_refl _) (by omega) (by simp [inv.size]) (fun j hj => ?_) (fun j hj hj2 => ?_) (by omega) h'.2⟩) (hQa a w hC hq)
    · by_cases e : i = j
      · subst e; simp [inv.size, hn]
      · exact getD_set_true (hl j (by omega))
    · rw [getD_set_ne true (by omega)]; exact inv.tail j (by omega) hj2
  intro fuel
  induction fuel with
  | zero => intro L M a w inv h00 ht hC h; exact fin L M a w _ inv ht hC h.1 h.2 (by omega)
  | succ fuel ih =>
    intro L M a w inv h00 ht hC h
    by_cases hr : Region.ready md ops M = []
    · exact fin L M a w _ inv ht hC hr (h.1 hr) (by omega)
    · obtain ⟨i, hi⟩ := List.exists_mem_of_ne_nil _ hr
      have h0 := (mem_ready.1 hi).1
      have hin : i < n := by
        rcases Nat.lt_or_ge i n with h1 | h1
        · exact h1
        · rw [ht.high i h1] at h0; cases h0
      have hiL := (ht.ready hk hin).1 hi
      have hi0 : i ≠ 0 := fun e => by
        have := (mem_ready.1 hiL).1
        rw [e] at this
        rw [getD_both this] at h00; cases h00
      rw [show fuel + 1 + (ops.size - n) = (fuel + (ops.size - n)) + 1 by omega]
      refine ⟨fun h1 => (by rw [h1] at hiL; cases hiL), fun j hj => ?_⟩
      have hjn : j < n := by
        rcases Nat.lt_or_ge j n with h1 | h1
        · exact h1
        · exact absurd hj (tail_waits1 hs hc hn inv _ i rfl hin hi0 (mem_ready.1 hiL).1 j h1)
      have hjM := (ht.ready hk hjn).2 hj
      exact wpOpIn_of_qOpIn rfl hC (fun a' w' hw' h' => ⟨fun _ => hw', ih _ _ a' w' (inv.set hj hjn) (getD_set_true h00) (ht.set hjn) hw' h'⟩) (h.2 j hjM)
def markZ (N n : Nat) : Array Bool := ((List.range N).map fun i => decide (i = 0 ∨ n ≤ i)).toArray
def floatB (ops : Array Oper) (n : Nat) : Bool :=
  Region.noSelect ops && decide (0 < n ∧ n + 1 < ops.size) && Region.sinkB .any ops (n + 1) && Region.chainB .any ops (n + 1) && sinkZ .any ops n && Region.chainB .any ops n && backB .any ops && deferB ops
    && (Region.ready .any ops (Array.replicate ops.size false)).contains 0 && Region.free .any ops (Array.replicate ops.size false) 0 && Region.lexFrom .any ops (n - 1) 1 (markZ ops.size n)
theorem any_of_float {l : List Oper} {o on : Oper} {v : Value} {a : Act} {w : World} (hB : floatB l.toArray n = true) (ho : l[0]? = some o) (hon : l[n]? = some on) (hgn : on.guard = none)
    (hQ : ∀ c a w, Q (.panic c) (a.put o.dst v) w → Q (.panic c) a w) (hy : YieldsIf P l.toArray C o v a) (hC : C w)
    (h : wpQuiet P l.toArray C (fun a' => ∀ w', C w' → on.wpIn Fence.wide m P a' w' (fun a'' w'' => C w'' ∧ wpListIn Fence.wide m P l.toArray Q (l.drop (n + 1)) a'' w'') Q) ((l.take n).drop 1) (a.put o.dst v)) :
    wpAnyIn Fence.wide m P .any l.toArray Q l.toArray.size (Array.replicate l.toArray.size false) a w := by
  simp only [floatB, Bool.and_eq_true, decide_eq_true_eq] at hB
  obtain ⟨⟨⟨⟨⟨⟨⟨⟨⟨⟨hsel, hn⟩, hs1⟩, hc1⟩, hsz⟩, hc⟩, hk⟩, _⟩, hr0⟩, hf0⟩, hlex⟩ := hB
  have hlen : ((l.take n).drop 1).length = n - 1 := by simp at hn ⊢; omega
  have inv0 : ∀ N, HeadInv .any l.toArray N (Array.replicate l.toArray.size false) := fun N =>
    ⟨by simp, fun j oj _ hl => (by rw [getD_replicate_false] at hl; cases hl), fun t _ ht => getD_in (by simpa using ht) (getD_replicate_false _ _)⟩
  have hr0' : 0 ∈ Region.ready .any l.toArray (Array.replicate l.toArray.size false) := by simpa using hr0
  have ho' : l.toArray[0]? = some o := by simpa using ho
  have h1 := quiet_lex (F := Fence.wide) (m := m) (md := .any) hsel ((l.take n).drop 1) 1 (markZ l.toArray.size n) _ (fun j hj => by
    rw [hlen] at hj
    simp only [List.getElem?_drop, List.getElem?_take, List.getElem?_toArray]
    rw [if_pos (by omega)]) (by rw [hlen]; exact hlex) (quiet_wide (m := m) _ _ h)
  rw [hlen] at h1
  have inv1 := (inv0 n).set hr0' hn.1
  have h2 := split_anyC (m := m) (Q := Q) (n := n) hk hsz hc (by omega) (fun a' w' hw' h' => by
    have h3 := h' w' hw'
    have hw : Region.wanted on (yielded l.toArray a'.tmps) = true := by unfold Region.wanted; rw [hgn]
    unfold wpOpIn
    simp only [show l.toArray[n]? = some on by simpa using hon, hw, if_true]
    refine Oper.wpIn_mono (fun a'' w'' h4 => ⟨h4.1, ?_⟩) h3
    have h5 := h4.2
    rw [← wpOpsIn_eq_wpListIn (l.drop (n + 1)) (n + 1) (fun j => by simp)] at h5
    simpa using h5) (n - 1) ((Array.replicate l.toArray.size false).setIfInBounds 0 true) (markZ l.toArray.size n) _ w inv1 (by simp at hn; simp [show 0 < l.length by omega])
    ⟨by simp [markZ], fun i hi d => by
      have hil : i < l.length := by simp at hn; omega
      unfold markZ
      by_cases e : i = 0
      · subst e; simp [hil]
      · rw [getD_set_ne d (fun h => e h.symm)]; simp [hil, e]; omega, fun i hi => by
      unfold markZ
      rcases Nat.lt_or_ge i l.length with h' | h'
      · simp [h', hi]
      · simp [h']⟩ hC h1
  have h3 := firstC (m := m) (Q := Q) ho' (Region.noSelect_spec hsel) hs1 hc1 hn.2 (show 0 < n + 1 by omega) hQ (n - 1 + (l.toArray.size - n)) _ a w (inv0 (n + 1)) (Region.free_spec ho' hf0) hr0' hy hC h2
  rw [show n - 1 + (l.toArray.size - n) + 1 = l.toArray.size by omega] at h3
  exact any_of_C _ _ _ _ h3
theorem regionIn_float_round {r id : Nat} {a : Act} {W : World} {l : List Oper} {o on : Oper} {v : Value} (n : Nat) (hm : P.follows .mixedOrders = true) (hB : floatB l.toArray n = true) (ho : l[0]? = some o) (hon : l[n]? = some on) (hgn : on.guard = none)
    (hy : YieldsIf P l.toArray (fun w' => ∃ x : Past W, w' = x.now) o v a)
    (h : wpQuiet P l.toArray (fun w' => ∃ x : Past W, w' = x.now) (fun a' => ∀ w', (∃ x : Past W, w' = x.now) → on.wpIn Fence.wide m P a' w' (fun a'' w'' => (∃ x : Past W, w'' = x.now) ∧ wpListIn Fence.wide m P l.toArray (onlyN Q) (l.drop (n + 1)) a'' w'') (onlyN Q)) ((l.take n).drop 1) (a.put o.dst v)) :
    (Code.region id l.toArray true).wpIn (Fence.wide.inRound r) m P Q a W :=
  onlyN_sub (wpIn_region_any hm (anyIn_round (by
    simp only [floatB, Bool.and_eq_true] at hB
    exact hB.1.1.1.2) r _ _ _ _ (any_of_float (C := fun w' => ∃ x : Past W, w' = x.now) hB ho hon hgn (fun _ _ _ h => h) hy ⟨⟨_, (Below.refl W.heap.size W).drew⟩, rfl⟩ h)))
theorem regionIn_float {id : Nat} {a : Act} {W : World} {l : List Oper} {o on : Oper} {v : Value} (n : Nat) (hm : P.follows .mixedOrders = true) (hB : floatB l.toArray n = true) (ho : l[0]? = some o) (hon : l[n]? = some on) (hgn : on.guard = none)
    (hy : YieldsIf P l.toArray (fun w' => ∃ x : Past W, w' = x.now) o v a)
    (h : wpQuiet P l.toArray (fun w' => ∃ x : Past W, w' = x.now) (fun a' => ∀ w', (∃ x : Past W, w' = x.now) → on.wpIn Fence.wide m P a' w' (fun a'' w'' => (∃ x : Past W, w'' = x.now) ∧ wpListIn Fence.wide m P l.toArray (onlyN Q) (l.drop (n + 1)) a'' w'') (onlyN Q)) ((l.take n).drop 1) (a.put o.dst v)) :
    (Code.region id l.toArray true).wpIn Fence.wide m P Q a W :=
  onlyN_sub (wpIn_region_any hm (any_of_float (C := fun w' => ∃ x : Past W, w' = x.now) hB ho hon hgn (fun _ _ _ h => h) hy ⟨⟨_, (Below.refl W.heap.size W).drew⟩, rfl⟩ h))
end
end Go.Proofs.Ytkeempljogjceaa
