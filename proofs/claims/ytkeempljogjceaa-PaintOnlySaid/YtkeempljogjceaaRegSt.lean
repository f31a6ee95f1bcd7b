/- A region that draws its order: operations that leave the world alone, and a row of others (stores) among which they may float; the world at each stage is told. -/
import Derived.Test.YtkeempljogjceaaRegFl
namespace Go.Proofs.Ytkeempljogjceaa
open Go.RowKit
section
variable {m n : Nat} {P : Program} {ops : Array Oper} {md : Region.Mode} {Q : Exit → Act → World → Prop} {Wt : Nat → World}

/-- op j comes, by way of others, behind op i. -/
def reachB (md : Region.Mode) (ops : Array Oper) (i : Nat) : Nat → Nat → Bool
  | 0, _ => false
  | f + 1, j => Region.waitsFor md ops j i || (List.range j).any fun k => decide (i < k) && Region.waitsFor md ops j k && reachB md ops i f k
def Closed (md : Region.Mode) (ops : Array Oper) (L : Array Bool) : Prop := ∀ j oj, ops[j]? = some oj → L.getD j false = true → ∀ e ∈ oj.after, Region.binds md e = true → L.getD e.on false = true
theorem reach_not {L : Array Bool} {i : Nat} (hc : Closed md ops L) (hi : L.getD i false = false) : ∀ f j, reachB md ops i f j = true → L.getD j false = false ∧ j ∉ Region.ready md ops L
  | 0, _, h => by cases h
  | f + 1, j, h => by
    have key : ∃ k, Region.waitsFor md ops j k = true ∧ L.getD k false = false := by
      unfold reachB at h
      rw [Bool.or_eq_true] at h
      rcases h with h | h
      · exact ⟨i, h, hi⟩
      · obtain ⟨k, _, hk⟩ := List.any_eq_true.1 h
        simp only [Bool.and_eq_true] at hk
        exact ⟨k, hk.1.2, (reach_not hc hi f k hk.2).1⟩
    obtain ⟨k, hk, hl⟩ := key
    obtain ⟨oj, hoj, e, he, hb, hon⟩ := Region.waitsFor_spec hk
    constructor
    · cases hj : L.getD j false with
      | false => rfl
      | true =>
        have := hc j oj hoj hj e he hb
        rw [hon, hl] at this
        cases this
    · intro hr
      obtain ⟨_, o, ho, hall⟩ := mem_ready.1 hr
      have := hall e (by rw [← Option.some.inj (hoj.symm.trans ho)]; exact he) hb
      rw [hon, hl] at this
      cases this
theorem Closed.set {L : Array Bool} {i : Nat} (h : Closed md ops L) (hi : i ∈ Region.ready md ops L) : Closed md ops (L.setIfInBounds i true) := by
  obtain ⟨_, oi, hoi, hall⟩ := mem_ready.1 hi
  intro j oj hj hl e he hb
  by_cases hij : i = j
  · subst hij
    have : oj = oi := Option.some.inj (hj.symm.trans hoi)
    subst this
    exact getD_set_true (hall e he hb)
  · rw [getD_set_ne false hij] at hl
    exact getD_set_true (h j oj hj hl e he hb)
/-- t of the last ones are over. -/
structure StInv (md : Region.Mode) (ops : Array Oper) (n : Nat) (L : Array Bool) (t : Nat) : Prop where
  size : L.size = ops.size
  closed : Closed md ops L
  over : ∀ s, n ≤ s → s < n + t → L.getD s false = true
  left : ∀ s, n + t ≤ s → s < ops.size → L.getD s true = false
theorem StInv.head {L : Array Bool} {i t : Nat} (h : StInv md ops n L t) (hi : i ∈ Region.ready md ops L) (hin : i < n) : StInv md ops n (L.setIfInBounds i true) t :=
  ⟨by simp [h.size], h.closed.set hi, fun s h1 h2 => getD_set_true (h.over s h1 h2), fun s h1 h2 => by rw [getD_set_ne true (by omega)]; exact h.left s h1 h2⟩
theorem StInv.at {L : Array Bool} {i t : Nat} (hc : Region.chainB md ops n = true) (h : StInv md ops n L t) (hi : i ∈ Region.ready md ops L) (hin : n ≤ i) : i = n + t := by
  obtain ⟨h0, o, ho, hall⟩ := mem_ready.1 hi
  have hlt : i < ops.size := (Array.getElem?_eq_some_iff.1 ho).1
  rcases Nat.lt_trichotomy i (n + t) with h1 | h1 | h1
  · have h2 := h.over i hin h1
    rw [getD_both h0] at h2
    cases h2
  · exact h1
  · exfalso
    have h1' := List.all_eq_true.1 hc i (List.mem_range.2 hlt)
    simp only [Bool.or_eq_true, decide_eq_true_eq] at h1'
    rcases h1' with h2 | h2
    · omega
    · obtain ⟨o', ho', e, he, hb, hon⟩ := Region.waitsFor_spec h2
      have h3 := hall e (by rw [← Option.some.inj (ho'.symm.trans ho)]; exact he) hb
      rw [hon, getD_both (h.left (i - 1) (by omega) (by omega))] at h3
      cases h3
theorem StInv.next {L : Array Bool} {t : Nat} (h : StInv md ops n L t) (hi : n + t ∈ Region.ready md ops L) : StInv md ops n (L.setIfInBounds (n + t) true) (t + 1) := by
  have hlt : n + t < L.size := by
    obtain ⟨_, o, ho, _⟩ := mem_ready.1 hi
    rw [h.size]; exact (Array.getElem?_eq_some_iff.1 ho).1
  refine ⟨by simp [h.size], h.closed.set hi, fun s h1 h2 => ?_, fun s h1 h2 => by rw [getD_set_ne true (by omega)]; exact h.left s (by omega) h2⟩
  by_cases e : n + t = s
  · subst e; simp [hlt]
  · exact getD_set_true (h.over s h1 (by omega))
/-- whatever order is picked, from stage t on. -/
def wpAnyT (m : Nat) (P : Program) (md : Region.Mode) (ops : Array Oper) (Q : Exit → Act → World → Prop) (Wt : Nat → World) (n : Nat) : Nat → Array Bool → Nat → Act → Prop
  | 0, L, t, a => Region.ready md ops L = [] ∧ Q .normal a (Wt t)
  | fuel + 1, L, t, a => (Region.ready md ops L = [] → Q .normal a (Wt t)) ∧ ∀ i ∈ Region.ready md ops L,
      wpOpIn Fence.wide m P ops Q i (fun a' w' => w' = Wt (if i < n then t else t + 1) ∧ wpAnyT m P md ops Q Wt n fuel (L.setIfInBounds i true) (if i < n then t else t + 1) a') a (Wt t)
theorem any_of_T : ∀ (fuel : Nat) (L : Array Bool) (t : Nat) (a : Act), wpAnyT m P md ops Q Wt n fuel L t a → wpAnyIn Fence.wide m P md ops Q fuel L a (Wt t)
  | 0, _, _, _, h => h
  | fuel + 1, _, _, _, h => ⟨h.1, fun i hi => wpOpIn_mono (fun a' w' h' => by rw [h'.1]; exact any_of_T fuel _ _ a' h'.2) (h.2 i hi)⟩
/-- in each of the first stages the operation yields v and leaves the world alone. -/
def YieldsSt (P : Program) (ops : Array Oper) (Wt : Nat → World) (lim : Nat) (o : Oper) (v : Value) (a : Act) : Prop :=
  (Region.wanted o (yielded ops a.tmps) = true ∧ ∀ t, t ≤ lim → o.quietAt P a (fun w => w = Wt t) (Wt t) v) ∨ (Region.wanted o (yielded ops a.tmps) = false ∧ v = undef)
theorem YieldsSt.of_same {lim : Nat} {o : Oper} {v : Value} {a a' : Act} (hy : YieldsSt P ops Wt lim o v a) (he : execOp a'.eval o = execOp a.eval o)
    (hw : Region.wanted o (yielded ops a'.tmps) = Region.wanted o (yielded ops a.tmps)) : YieldsSt P ops Wt lim o v a' := by
  unfold YieldsSt Oper.quietAt at *
  rw [he, hw]
  exact hy
theorem YieldsSt.op {lim t i : Nat} {o : Oper} {v : Value} {a : Act} {K : Act → World → Prop} (hi : ops[i]? = some o) (hy : YieldsSt P ops Wt lim o v a) (ht : t ≤ lim) (h : K (a.put o.dst v) (Wt t)) : wpOpIn Fence.wide m P ops Q i K a (Wt t) := by
  unfold wpOpIn
  simp only [hi]
  rcases hy with ⟨hw, hv⟩ | ⟨hw, rfl⟩
  · simp only [hw, if_true, Oper.wpIn, Fence.wide_round, Oper.semAt_none]
    refine ⟨fun _ _ => trivial, ?_⟩
    have h3 := hv t ht
    unfold Oper.quietAt at h3
    generalize (execOp a.eval o).run P (Wt t) = x at *
    cases x with
    | ok x w' =>
      cases x <;> simp only [Oper.quietUpon] at h3 <;> simp only [Oper.uponIn]
      case value u => obtain ⟨e1, e2⟩ := h3; rw [e1, e2]; exact h
      case skip => obtain ⟨e1, e2⟩ := h3; rw [e1, ← e2]; exact h
      case enter f args =>
        obtain ⟨e1, hc⟩ := h3
        rw [e1]
        exact ⟨(fun h => (by cases h)), callsIn_wide.2 (hc.mono fun e w'' ⟨he, hw''⟩ => by subst he hw''; exact h)⟩
    | halt x w' => cases h3
  · simp only [hw, Bool.false_eq_true, if_false]; exact ⟨fun _ _ => trivial, h⟩
theorem opIn_putSt {lim j : Nat} {oi oj : Oper} {v : Value} (hj : ops[j]? = some oj) (hap : oi.apart ops oj = true) (hsi : ∀ cs b, oi.op ≠ .select cs b) (hsj : ∀ cs b, oj.op ≠ .select cs b)
    (hQ : ∀ c a w, Q (.panic c) (a.put oi.dst v) w → Q (.panic c) a w) {K : Act → World → Prop} {a : Act} {w : World}
    (hy : YieldsSt P ops Wt lim oi v a) (h : wpOpIn Fence.wide m P ops Q j K (a.put oi.dst v) w) :
    wpOpIn Fence.wide m P ops Q j (fun a' w' => YieldsSt P ops Wt lim oi v a' ∧ K (a'.put oi.dst v) w') a w := by
  obtain ⟨h1, h2, h3⟩ := Oper.apart_spec hap
  have keep : ∀ (a : Act), YieldsSt P ops Wt lim oi v a → ∀ u, YieldsSt P ops Wt lim oi v (a.put oj.dst u) := fun a hy u =>
    hy.of_same (execOp_put oi hsi a oj.dst u h3) (wanted_put oi a oj.dst u h3)
  unfold wpOpIn at *
  simp only [hj] at *
  rw [wanted_put oj a oi.dst v h1] at h
  split
  · rename_i hw
    simp only [hw, if_true, Oper.wpIn, Fence.wide_round, Oper.semAt_none] at h ⊢
    refine ⟨fun _ _ => trivial, ?_⟩
    have h := h.2
    rw [execOp_put oj hsj a oi.dst v h1] at h
    generalize (execOp a.eval oj).run P w = x at *
    cases x with
    | ok x w' =>
      cases x <;> simp only [Oper.uponIn] at h ⊢
      case value u => exact ⟨keep a hy u, by rw [← Act.put_comm a v u h2]; exact h⟩
      case skip => exact ⟨keep a hy _, by rw [← Act.put_comm a v undef h2]; exact h⟩
      case defer d =>
        have hy2 : YieldsSt P ops Wt lim oi v { a with defers := d :: a.defers } := hy.of_same rfl rfl
        refine ⟨keep _ hy2 _, ?_⟩
        rw [← Act.put_comm _ v undef h2, ← Act.put_defers]
        exact h
      case enter f args =>
        refine ⟨h.1, CallsIn.mono h.2 fun e w'' he => ?_⟩
        cases e with
        | returned u => exact ⟨keep a hy u, by rw [← Act.put_comm a v u h2]; exact he⟩
        | panicked c => exact hQ _ _ _ he
        | outgrown => exact he
      case row row args => exact ⟨h.1, RowsIn.mono h.2 fun u w'' he => ⟨keep a hy u, by rw [← Act.put_comm a v u h2]; exact he⟩⟩
      case round =>
        refine ⟨h.1, RoundIn.mono h.2 fun e w'' he => ?_⟩
        cases e with
        | returned u => exact ⟨keep a hy u, by rw [← Act.put_comm a v u h2]; exact he⟩
        | panicked c => exact hQ _ _ _ he
        | outgrown => exact he
    | halt x w' =>
      cases x <;> simp only [Oper.uponIn] at h ⊢
      case panic u => exact hQ _ _ _ h
  · rename_i hw
    simp only [hw] at h
    exact ⟨fun _ _ => trivial, keep a hy _, by rw [← Act.put_comm a v undef h2]; exact h.2⟩
/-- an operation that leaves the world alone may be taken first. -/
theorem firstT {lim i : Nat} {oi : Oper} {v : Value} (hi : ops[i]? = some oi) (hsel : ∀ (j : Nat) (o : Oper) cs b, ops[j]? = some o → o.op ≠ .select cs b)
    (hc : Region.chainB md ops n = true) (hin : i < n) (hre : reachB md ops i ops.size (n + lim) = true) (hQ : ∀ c a w, Q (.panic c) (a.put oi.dst v) w → Q (.panic c) a w) :
    ∀ (fuel : Nat) (L : Array Bool) (t : Nat) (a : Act), StInv md ops n L t → t ≤ lim →
      (∀ j oj, ops[j]? = some oj → j ≠ i → L.getD j true = false → (∀ e ∈ oj.after, Region.binds md e = true → e.on ≠ i) → oi.apart ops oj = true) →
      i ∈ Region.ready md ops L → YieldsSt P ops Wt lim oi v a →
      wpAnyT m P md ops Q Wt n fuel (L.setIfInBounds i true) t (a.put oi.dst v) → wpAnyT m P md ops Q Wt n (fuel + 1) L t a := by
  intro fuel
  induction fuel with
  | zero =>
    intro L t a inv ht _ hr hy H
    refine ⟨fun h => (by rw [h] at hr; cases hr), fun j hj => ?_⟩
    by_cases hji : j = i
    · subst hji; exact hy.op hi ht (by rw [if_pos hin]; exact ⟨rfl, H⟩)
    · have := ready_mono hj hji
      rw [H.1] at this
      cases this
  | succ fuel ih =>
    intro L t a inv ht hfree hr hy H
    have hun := (mem_ready.1 hr).1
    refine ⟨fun h => (by rw [h] at hr; cases hr), fun j hj => ?_⟩
    by_cases hji : j = i
    · subst hji; exact hy.op hi ht (by rw [if_pos hin]; exact ⟨rfl, H⟩)
    · have h1 := H.2 j (ready_mono hj hji)
      obtain ⟨hjun, oj, hoj, hall⟩ := mem_ready.1 hj
      have hnot : ∀ e ∈ oj.after, Region.binds md e = true → e.on ≠ i := fun e he hb heq => by
        have h1 := hall e he hb
        rw [heq, getD_both hun] at h1
        cases h1
      have h2 := opIn_putSt hoj (hfree j oj hoj hji hjun hnot) (fun cs b => hsel i oi cs b hi) (fun cs b => hsel j oj cs b hoj) hQ hy h1
      have hfree' : ∀ k ok, ops[k]? = some ok → k ≠ i → (L.setIfInBounds j true).getD k true = false →
          (∀ e ∈ ok.after, Region.binds md e = true → e.on ≠ i) → oi.apart ops ok = true := fun k ok hk hki hun hno => by
        refine hfree k ok hk hki ?_ hno
        by_cases hjk : j = k
        · subst hjk; exact hjun
        · rw [getD_set_ne true hjk] at hun; exact hun
      refine wpOpIn_mono (fun a' w' h3 => ⟨h3.2.1, ?_⟩) h2
      have h4 := h3.2.2
      rw [← Array.setIfInBounds_comm _ _ hji] at h4
      by_cases hjn : j < n
      · rw [if_pos hjn] at h4 ⊢
        exact ih _ t a' (inv.head hj hjn) ht hfree' (ready_mono hr (Ne.symm hji)) h3.1 h4
      · rw [if_neg hjn] at h4 ⊢
        have ej := inv.at hc hj (by omega)
        have htl : t + 1 ≤ lim := by
          rcases Nat.lt_or_ge t lim with h5 | h5
          · exact h5
          · exfalso
            have e5 : t = lim := by omega
            subst e5
            exact (reach_not inv.closed (getD_both hun) _ _ hre).2 (ej ▸ hj)
        exact ih _ (t + 1) a' (by rw [ej]; exact inv.next (ej ▸ hj)) htl hfree' (ready_mono hr (Ne.symm hji)) h3.1 h4
/-- the last ones, one behind the other. -/
def wpTailT (m : Nat) (P : Program) (ops : Array Oper) (Q : Exit → Act → World → Prop) (Wt : Nat → World) : List Oper → Nat → Act → Prop
  | [], t, a => Q .normal a (Wt t)
  | o :: rest, t, a => if Region.wanted o (yielded ops a.tmps) then o.wpIn Fence.wide m P a (Wt t) (fun a' w' => w' = Wt (t + 1) ∧ wpTailT m P ops Q Wt rest (t + 1) a') Q else False
theorem tail_anyT (hk : backB md ops = true) (hc : Region.chainB md ops n = true) : ∀ (l : List Oper) (t : Nat) (L : Array Bool) (a : Act), (∀ j, l[j]? = ops[n + t + j]?) → StInv md ops n L t → (∀ i, i < n → L.getD i false = true) →
    wpTailT m P ops Q Wt l t a → wpAnyT m P md ops Q Wt n l.length L t a
  | [], t, L, a, hl, inv, hh, h => by
    refine ⟨List.eq_nil_iff_forall_not_mem.2 fun i hi => ?_, h⟩
    obtain ⟨h0, o, ho, _⟩ := mem_ready.1 hi
    have hlt : i < ops.size := (Array.getElem?_eq_some_iff.1 ho).1
    have hsz : ops.size ≤ n + t := by
      have := (hl 0).symm
      simpa using this
    have h1 : L.getD i false = true := by
      rcases Nat.lt_or_ge i n with h2 | h2
      · exact hh i h2
      · exact inv.over i h2 (by omega)
    rw [getD_both h0] at h1
    cases h1
  | o :: l, t, L, a, hl, inv, hh, h => by
    have h0 : ops[n + t]? = some o := by simpa using (hl 0).symm
    have hlt : n + t < ops.size := (Array.getElem?_eq_some_iff.1 h0).1
    obtain ⟨hmem, honly⟩ := ready_one (k := n + t) hk hc (by omega) hlt inv.size (fun i hi => by
      rcases Nat.lt_or_ge i n with h2 | h2
      · exact hh i h2
      · exact inv.over i h2 (by omega)) (fun i h1 h2 => inv.left i h1 h2)
    refine ⟨fun h0 => (by rw [h0] at hmem; cases hmem), fun i hi => ?_⟩
    obtain rfl := honly i hi
    unfold wpTailT at h
    split at h
    · rename_i hw
      unfold wpOpIn
      simp only [h0, hw, if_true]
      refine Oper.wpIn_mono (fun a' w' h' => ?_) h
      rw [if_neg (by omega)]
      exact ⟨h'.1, tail_anyT hk hc l (t + 1) _ a' (fun j => by have := hl (j + 1); simpa [Nat.add_assoc, Nat.add_comm 1 j] using this) (inv.next hmem) (fun i hi => getD_set_true (hh i hi)) h'.2⟩
    · exact h.elim
/-- the first ones, as they stand; of each the last stage at which it may come up. -/
def wpStage (P : Program) (ops : Array Oper) (Wt : Nat → World) (Qa : Act → Prop) : List Nat → List Oper → Act → Prop
  | lim :: ls, o :: rest, a => if Region.wanted o (yielded ops a.tmps) then ∃ v, (∀ t, t ≤ lim → o.quietAt P a (fun w => w = Wt t) (Wt t) v) ∧ wpStage P ops Wt Qa ls rest (a.put o.dst v) else wpStage P ops Wt Qa ls rest (a.put o.dst undef)
  | _, _, a => Qa a
def lexT (md : Region.Mode) (ops : Array Oper) (n : Nat) : List Nat → Nat → Array Bool → Bool
  | [], k, L => decide (k = n) && decide (L = markA' ops.size n)
  | lim :: ls, k, L => decide (k < n) && (Region.ready md ops L).contains k && Region.free md ops L k && reachB md ops k ops.size (n + lim) && lexT md ops n ls (k + 1) (L.setIfInBounds k true)
where markA' (N n : Nat) : Array Bool := ((List.range N).map fun i => decide (i < n)).toArray
theorem lex_anyT (hn : n < ops.size) (hsel : Region.noSelect ops = true) (hk : backB md ops = true) (hc : Region.chainB md ops n = true) (hQ : ∀ d v c a w, Q (.panic c) (Act.put a d v) w → Q (.panic c) a w) :
    ∀ (ls : List Nat) (l : List Oper) (k : Nat) (L : Array Bool) (a : Act), ls.length = l.length → (∀ j, j < l.length → l[j]? = ops[k + j]?) → StInv md ops n L 0 → lexT md ops n ls k L = true →
    wpStage P ops Wt (wpTailT m P ops Q Wt (ops.toList.drop n) 0) ls l a → wpAnyT m P md ops Q Wt n (l.length + (ops.size - n)) L 0 a
  | [], [], k, L, a, _, _, inv, hB, h => by
    simp only [lexT, Bool.and_eq_true, decide_eq_true_eq] at hB
    have h1 := tail_anyT hk hc (ops.toList.drop n) 0 L a (fun j => by simp) inv (fun i hi => by
      have hs := inv.size
      rw [hB.2] at hs ⊢
      have : i < ops.size := by omega
      simp [lexT.markA', this, hi]) h
    simpa using h1
  | [], _ :: _, _, _, _, hl, _, _, _, _ => by cases hl
  | _ :: _, [], _, _, _, hl, _, _, _, _ => by cases hl
  | lim :: ls, o :: l, k, L, a, hlen, hl, inv, hB, h => by
    have h0 : ops[k]? = some o := by simpa using (hl 0 (by simp)).symm
    simp only [lexT, Bool.and_eq_true, decide_eq_true_eq] at hB
    obtain ⟨⟨⟨⟨hkn, hr⟩, hf⟩, hre⟩, hB'⟩ := hB
    have hr' : k ∈ Region.ready md ops L := by simpa using hr
    have step : ∀ v, YieldsSt P ops Wt lim o v a → wpStage P ops Wt (wpTailT m P ops Q Wt (ops.toList.drop n) 0) ls l (a.put o.dst v) → wpAnyT m P md ops Q Wt n ((o :: l).length + (ops.size - n)) L 0 a := by
      intro v hy hs
      have ih := lex_anyT hn hsel hk hc hQ ls l (k + 1) (L.setIfInBounds k true) (a.put o.dst v) (by simpa using hlen) (fun j hj => by have := hl (j + 1) (by simp; omega); simpa [Nat.add_assoc, Nat.add_comm 1 j] using this) (inv.head hr' hkn) hB' hs
      rw [show (o :: l).length + (ops.size - n) = (l.length + (ops.size - n)) + 1 by simp; omega]
      exact firstT h0 (Region.noSelect_spec hsel) hc hkn hre (hQ o.dst v) _ L 0 a inv (Nat.zero_le _) (Region.free_spec h0 hf) hr' hy ih
    unfold wpStage at h
    split at h
    · rename_i hw
      obtain ⟨v, hv, hs⟩ := h
      exact step v (.inl ⟨hw, hv⟩) hs
    · rename_i hw
      exact step undef (.inr ⟨by simpa using hw, rfl⟩) h
def stageB (ops : Array Oper) (n : Nat) (ls : List Nat) : Bool :=
  Region.noSelect ops && decide (n < ops.size) && Region.chainB .any ops n && backB .any ops && deferB ops && decide (ls.length = n) && lexT .any ops n ls 0 (Array.replicate ops.size false)
theorem any_of_stage {l : List Oper} {ls : List Nat} {a : Act} {w : World} (hB : stageB l.toArray n ls = true) (hQ : ∀ d v c a w, Q (.panic c) (Act.put a d v) w → Q (.panic c) a w) (hw : Wt 0 = w)
    (h : wpStage P l.toArray Wt (wpTailT m P l.toArray Q Wt (l.drop n) 0) ls (l.take n) a) : wpAnyIn Fence.wide m P .any l.toArray Q l.toArray.size (Array.replicate l.toArray.size false) a w := by
  simp only [stageB, Bool.and_eq_true, decide_eq_true_eq] at hB
  obtain ⟨⟨⟨⟨⟨⟨hsel, hn⟩, hc⟩, hk⟩, _⟩, hlen⟩, hlex⟩ := hB
  have hn' : n < l.length := by simpa using hn
  have h1 := lex_anyT (m := m) (md := .any) (Q := Q) (Wt := Wt) hn hsel hk hc hQ ls (l.take n) 0 (Array.replicate l.toArray.size false) a (by simp; omega) (fun j hj => by
    have hj' : j < n := by simp at hj; omega
    simp [hj'])
    ⟨by simp, fun j oj _ hl => (by rw [getD_replicate_false] at hl; cases hl), fun s h1 h2 => by omega, fun t _ ht => getD_in (by simpa using ht) (getD_replicate_false _ _)⟩ hlex (by simpa using h)
  rw [show (l.take n).length + (l.toArray.size - n) = l.toArray.size by simp; omega] at h1
  rw [← hw]
  exact any_of_T _ _ _ _ h1
theorem regionIn_stage {id : Nat} {a : Act} {w : World} {l : List Oper} (n : Nat) (ls : List Nat) (Wt : Nat → World) (hm : P.follows .mixedOrders = true) (hB : stageB l.toArray n ls = true) (hw : Wt 0 = w.drew)
    (h : wpStage P l.toArray Wt (wpTailT m P l.toArray (onlyN Q) Wt (l.drop n) 0) ls (l.take n) a) : (Code.region id l.toArray true).wpIn Fence.wide m P Q a w :=
  onlyN_sub (wpIn_region_any hm (any_of_stage hB (fun _ _ _ _ _ h => h) hw h))
theorem regionIn_stage_round {r id : Nat} {a : Act} {w : World} {l : List Oper} (n : Nat) (ls : List Nat) (Wt : Nat → World) (hm : P.follows .mixedOrders = true) (hB : stageB l.toArray n ls = true) (hw : Wt 0 = w.drew)
    (h : wpStage P l.toArray Wt (wpTailT m P l.toArray (onlyN Q) Wt (l.drop n) 0) ls (l.take n) a) : (Code.region id l.toArray true).wpIn (Fence.wide.inRound r) m P Q a w :=
  onlyN_sub (wpIn_region_any hm (anyIn_round (by
    simp only [stageB, Bool.and_eq_true] at hB
    exact hB.1.1.2) r _ _ _ _ (any_of_stage hB (fun _ _ _ _ _ h => h) hw h)))
theorem stage_step {lim : Nat} {ls : List Nat} {o : Oper} {rest : List Oper} {a : Act} {Qa : Act → Prop} (v : Value) (hg : o.guard = none) (hv : ∀ t, t ≤ lim → o.quietAt P a (fun w => w = Wt t) (Wt t) v) (h : wpStage P ops Wt Qa ls rest (a.put o.dst v)) :
    wpStage P ops Wt Qa (lim :: ls) (o :: rest) a := by
  unfold wpStage
  rw [if_pos (by simp [Region.wanted, hg])]
  exact ⟨v, hv, h⟩
theorem tail_step {o : Oper} {rest : List Oper} {t : Nat} {a : Act} (hg : o.guard = none) (h : o.wpIn Fence.wide m P a (Wt t) (fun a' w' => w' = Wt (t + 1) ∧ wpTailT m P ops Q Wt rest (t + 1) a') Q) : wpTailT m P ops Q Wt (o :: rest) t a := by
  unfold wpTailT
  rw [if_pos (by simp [Region.wanted, hg])]
  exact h
end
end Go.Proofs.Ytkeempljogjceaa
