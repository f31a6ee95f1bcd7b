/- A region that draws its order, whose last operations stand in a row behind all others: a quiet walk of the first ones, then the last ones as they stand; inside a fence, and in a round. -/
import Derived.Test.YtpibeocngkjolaaGreatDoorMgQuantBl
import Derived.BigQuiet
import Derived.OwnWalkIn
import Derived.Sort.QuietThIn
import Derived.StillTail
import Derived.TacticsIn
set_option linter.unusedVariables false
set_option linter.unusedSimpArgs false

namespace Go.Proofs.YtpibeocngkjolaaGreatDoor
open Go.RowKit
set_option linter.unusedSimpArgs false
set_option linter.unusedVariables false
section
variable {F : Fence} {m n : Nat} {P : Program} {ops : Array Oper} {md : Region.Mode} {Q : Exit → Act → World → Prop}

/-- every operation waits for earlier ones alone. -/
def backB (md : Region.Mode) (ops : Array Oper) : Bool := (List.range ops.size).all fun j => match ops[j]? with
  | some o => o.after.all fun e => !Region.binds md e || decide (e.on < j)
  | none => true
theorem backB_spec (h : backB md ops = true) {j : Nat} {o : Oper} (hj : ops[j]? = some o) {e : Edge} (he : e ∈ o.after) (hb : Region.binds md e = true) : e.on < j := by
  have hlt : j < ops.size := (Array.getElem?_eq_some_iff.1 hj).1
  have h1 := List.all_eq_true.1 h j (List.mem_range.2 hlt)
  simp only [hj] at h1
  have h2 := Array.all_eq_true'.1 h1 e he
  simpa [hb] using h2
/-- the last ones said to be over. -/
structure Tailed (n : Nat) (L M : Array Bool) : Prop where
  size : M.size = L.size
  low : ∀ i, i < n → ∀ d, M.getD i d = L.getD i d
  high : ∀ i, n ≤ i → M.getD i true = true
theorem Tailed.set {L M : Array Bool} {i : Nat} (h : Tailed n L M) (hi : i < n) : Tailed n (L.setIfInBounds i true) (M.setIfInBounds i true) := by
  refine ⟨by simp [h.size], fun j hj d => ?_, fun j hj => by rw [getD_set_ne true (by omega)]; exact h.high j hj⟩
  by_cases e : i = j
  · subst e
    rcases Nat.lt_or_ge i L.size with h' | h'
    · simp [h', h.size]
    · have e1 := h.low i hi d
      simp only [Array.getD_eq_getD_getElem?] at e1 ⊢
      rw [Array.getElem?_eq_none (by simp [h.size]; omega), Array.getElem?_eq_none (by simp; omega)]
  · rw [getD_set_ne d e, getD_set_ne d e]; exact h.low j hj d
theorem Tailed.ready {L M : Array Bool} {i : Nat} (hk : backB md ops = true) (h : Tailed n L M) (hi : i < n) : i ∈ Region.ready md ops M ↔ i ∈ Region.ready md ops L := by
  rw [mem_ready, mem_ready, h.low i hi]
  refine and_congr_right fun _ => exists_congr fun o => and_congr_right fun ho => ?_
  refine forall_congr' fun e => forall_congr' fun he => forall_congr' fun hb => ?_
  rw [h.low e.on (by have := backB_spec hk ho he hb; omega)]
/-- whoever is first of those that are not over may come up. -/
theorem head_over {L M : Array Bool} (hk : backB md ops = true) (hn : n < ops.size) (hs : L.size = ops.size) (h : Tailed n L M) (hr : Region.ready md ops M = []) : ∀ i, i < n → L.getD i false = true := by
  intro i
  induction i using Nat.strongRecOn with
  | _ i ih =>
    intro hi
    cases hl : L.getD i false with
    | true => rfl
    | false =>
      exfalso
      have hmem : i ∈ Region.ready md ops L := by
        rw [mem_ready]
        refine ⟨getD_in (by omega) hl, ops[i]'(by omega), by simp [show i < ops.size by omega], fun e he hb => ?_⟩
        have := backB_spec hk (j := i) (o := ops[i]'(by omega)) (by simp [show i < ops.size by omega]) he hb
        exact ih e.on this (by omega)
      rw [← h.ready hk hi, hr] at hmem
      cases hmem
/-- all ahead of k are over, none from k on: k may come up, alone. -/
theorem ready_one {k : Nat} {L : Array Bool} (hk : backB md ops = true) (hc : Region.chainB md ops n = true) (hnk : n ≤ k) (hklt : k < ops.size) (hs : L.size = ops.size) (hl : ∀ i, i < k → L.getD i false = true)
    (hu : ∀ i, k ≤ i → i < ops.size → L.getD i true = false) : k ∈ Region.ready md ops L ∧ ∀ i, i ∈ Region.ready md ops L → i = k := by
  refine ⟨?_, fun i hi => ?_⟩
  · rw [mem_ready]
    refine ⟨hu k (Nat.le_refl _) hklt, ops[k], by simp [hklt], fun e he hb => ?_⟩
    have := backB_spec hk (j := k) (o := ops[k]) (by simp [hklt]) he hb
    exact hl e.on this
  · obtain ⟨h0, o, ho, hall⟩ := mem_ready.1 hi
    have hlt : i < ops.size := (Array.getElem?_eq_some_iff.1 ho).1
    rcases Nat.lt_trichotomy i k with h1 | h1 | h1
    · have h2 := hl i h1
      rw [getD_both h0] at h2
      cases h2
    · exact h1
    · exfalso
      have h1' := List.all_eq_true.1 hc i (List.mem_range.2 hlt)
      simp only [Bool.or_eq_true, decide_eq_true_eq] at h1'
      rcases h1' with h2 | h2
      · omega
      · obtain ⟨o', ho', e, he, hb, hon⟩ := Region.waitsFor_spec h2
        have h3 := hall e (by rw [← Option.some.inj (ho'.symm.trans ho)]; exact he) hb
        rw [hon, getD_both (hu (i - 1) (by omega) (by omega))] at h3
        cases h3
/-- the last ones, one behind the other. -/
theorem tail_any (hk : backB md ops = true) (hc : Region.chainB md ops n = true) : ∀ (g k : Nat) (L : Array Bool) (a : Act) (w : World) (fuel : Nat), n ≤ k → k + g = ops.size → L.size = ops.size → (∀ i, i < k → L.getD i false = true) →
    (∀ i, k ≤ i → i < ops.size → L.getD i true = false) → g ≤ fuel → wpOpsIn F m P ops Q (List.range' k g) a w → wpAnyIn F m P md ops Q fuel L a w
  | 0, k, L, a, w, fuel, _, hg, hs, hl, _, _, h => by
    have hr : Region.ready md ops L = [] := by
      refine List.eq_nil_iff_forall_not_mem.2 fun i hi => ?_
      obtain ⟨h0, o, ho, _⟩ := mem_ready.1 hi
      have hlt : i < ops.size := (Array.getElem?_eq_some_iff.1 ho).1
      have h1 := hl i (by omega)
      rw [getD_both h0] at h1
      cases h1
    cases fuel with
    | zero => exact ⟨hr, h⟩
    | succ f => exact ⟨fun _ => h, fun i hi => by rw [hr] at hi; cases hi⟩
  | g + 1, k, L, a, w, fuel, hnk, hg, hs, hl, hu, hf, h => by
    obtain ⟨f, rfl⟩ : ∃ f, fuel = f + 1 := ⟨fuel - 1, by omega⟩
    have hklt : k < ops.size := by omega
    obtain ⟨hmem, honly⟩ := ready_one hk hc hnk hklt hs hl hu
    refine ⟨fun h0 => (by rw [h0] at hmem; cases hmem), fun i hi => ?_⟩
    obtain rfl := honly i hi
    rw [List.range'_succ, wpOpsIn_cons] at h
    refine wpOpIn_mono (fun a' w' h' => tail_any hk hc g (i + 1) _ a' w' f (by omega) (by omega) (by simp [hs]) (fun j hj => ?_) (fun j hj hj2 => ?_) (by omega) (by simpa using h')) h
    · by_cases e : i = j
      · subst e; simp [hs, hklt]
      · exact getD_set_true (hl j (by omega))
    · rw [getD_set_ne true (by omega)]; exact hu j (by omega) hj2
/-- behind the first ones: the last ones. -/
def headQ (F : Fence) (m : Nat) (P : Program) (ops : Array Oper) (Q : Exit → Act → World → Prop) (n : Nat) : Exit → Act → World → Prop
  | .normal => wpOpsIn F m P ops Q (List.range' n (ops.size - n))
  | e => Q e
theorem upon_headQ {G : Fence} {j : Nat} (o : Oper) (a : Act) (K : Act → World → Prop) (r : Result Next) : o.uponIn F m P a K (headQ G j P ops Q n) r = o.uponIn F m P a K Q r := by
  cases r with
  | ok x w' => cases x <;> rfl
  | halt x w' => cases x <;> rfl
theorem wpOpIn_headQ {G : Fence} {j i : Nat} {K : Act → World → Prop} {a : Act} {w : World} : wpOpIn F m P ops (headQ G j P ops Q n) i K a w ↔ wpOpIn F m P ops Q i K a w := by
  unfold wpOpIn Oper.wpIn
  simp only [upon_headQ]
theorem split_any (hk : backB md ops = true) (hs : Region.sinkB md ops n = true) (hc : Region.chainB md ops n = true) (hn : n < ops.size) : ∀ (fuel : Nat) (L M : Array Bool) (a : Act) (w : World), HeadInv md ops n L → Tailed n L M →
    wpAnyIn F m P md ops (headQ F m P ops Q n) fuel M a w → wpAnyIn F m P md ops Q (fuel + (ops.size - n)) L a w := by
  intro fuel
  induction fuel with
  | zero =>
    intro L M a w inv ht h
    exact tail_any hk hc (ops.size - n) n L a w _ (Nat.le_refl _) (by omega) inv.size (head_over hk hn inv.size ht h.1) (fun i h1 h2 => inv.tail i h1 h2) (by omega) h.2
  | succ fuel ih =>
    intro L M a w inv ht h
    by_cases hr : Region.ready md ops M = []
    · exact tail_any hk hc (ops.size - n) n L a w _ (Nat.le_refl _) (by omega) inv.size (head_over hk hn inv.size ht hr) (fun i h1 h2 => inv.tail i h1 h2) (by omega) (h.1 hr)
    · obtain ⟨i, hi⟩ := List.exists_mem_of_ne_nil _ hr
      have h0 := (mem_ready.1 hi).1
      have hin : i < n := by
        rcases Nat.lt_or_ge i n with h1 | h1
        · exact h1
        · rw [ht.high i h1] at h0; cases h0
      have hiL := (ht.ready hk hin).1 hi
      rw [show fuel + 1 + (ops.size - n) = (fuel + (ops.size - n)) + 1 by omega]
      refine ⟨fun h1 => (by rw [h1] at hiL; cases hiL), fun j hj => ?_⟩
      have hjn : j < n := by
        rcases Nat.lt_or_ge j n with h1 | h1
        · exact h1
        · exact absurd hj (tail_waits hs hc hn inv _ i rfl hin (mem_ready.1 hiL).1 j h1)
      have hjM := (ht.ready hk hjn).2 hj
      exact wpOpIn_mono (fun a' w' h' => ih _ _ a' w' (inv.set hj hjn) (ht.set hjn) h') (wpOpIn_headQ.1 (h.2 j hjM))

/-! ### in a round -/
def deferB (ops : Array Oper) : Bool := ops.all fun o => match o.op with | .defer _ => false | _ => true
theorem upon_round (r : Nat) (o : Oper) (a : Act) (K : Act → World → Prop) (x : Result Next) : o.uponIn (F.inRound r) m P a K Q x = o.uponIn F m P a K Q x := by
  cases x with
  | ok x w' => cases x <;> rfl
  | halt x w' => cases x <;> rfl
theorem opIn_round (hd : deferB ops = true) (r i : Nat) {K : Act → World → Prop} {a : Act} {w : World} (h : wpOpIn F m P ops Q i K a w) : wpOpIn (F.inRound r) m P ops Q i K a w := by
  unfold wpOpIn at *
  split
  · rename_i ho; simpa [ho] using h
  · rename_i o ho
    simp only [ho] at h
    have h1 := Array.all_eq_true'.1 hd o (Array.mem_of_getElem? ho)
    have he : ∀ s, o.semAt s a.eval = execOp a.eval o := fun s => Oper.semAt_eq s _ _ (fun c hc => by rw [hc] at h1; cases h1)
    split
    · rename_i hw
      simp only [hw, if_true, Oper.wpIn, he] at h ⊢
      rw [upon_round]
      exact h
    · rename_i hw
      simp only [hw] at h
      exact h
theorem anyIn_round (hd : deferB ops = true) (r : Nat) : ∀ (fuel : Nat) (L : Array Bool) (a : Act) (w : World), wpAnyIn F m P md ops Q fuel L a w → wpAnyIn (F.inRound r) m P md ops Q fuel L a w
  | 0, _, _, _, h => h
  | fuel + 1, _, _, _, h => ⟨h.1, fun i hi => opIn_round hd r i (wpOpIn_mono (fun a' w' h' => anyIn_round hd r fuel _ a' w' h') (h.2 i hi))⟩

/-! ### the head, quiet -/
theorem quiet_wide {C : World → Prop} {Q : Act → Prop} : ∀ (l : List Oper) (a : Act), wpQuiet P ops C Q l a → wpQuietIn Fence.wide m P ops C Q l a
  | [], _, h => h
  | o :: rest, a, h => by
    refine ⟨fun _ _ _ _ => trivial, ?_⟩
    unfold wpQuiet at h
    split
    · rename_i hw
      rw [if_pos hw] at h
      obtain ⟨v, h1, h2⟩ := h
      refine ⟨v, fun w hC => ?_, quiet_wide rest _ h2⟩
      have h3 := h1 w hC
      unfold Oper.quietAt at h3
      unfold Oper.quietAtIn
      generalize (execOp a.eval o).run P w = x at *
      cases x with
      | ok x w' =>
        cases x <;> simp only [Oper.quietUpon] at h3 <;> simp only [Oper.quietUponIn]
        case value => exact h3
        case skip => exact h3
        case enter => exact ⟨h3.1, (fun h => (by cases h)), callsIn_wide.2 h3.2⟩
      | halt x w' => cases h3
    · rename_i hw
      rw [if_neg hw] at h
      exact quiet_wide rest _ h
theorem quiet_lex {C : World → Prop} {Qa : Act → Prop} (hs : Region.noSelect ops = true) : ∀ (l : List Oper) (k : Nat) (listed : Array Bool) (a : Act), (∀ j, j < l.length → l[j]? = ops[k + j]?) →
    Region.lexFrom md ops l.length k listed = true → wpQuietIn F m P ops C Qa l a → wpAnyQIn F m P md ops C Qa l.length listed a
  | [], _, _, _, _, hB, h => ⟨by simpa [Region.lexFrom] using hB, h⟩
  | o :: l, k, listed, a, hl, hB, h => by
    have h0 : ops[k]? = some o := by simpa using (hl 0 (by simp)).symm
    simp only [List.length_cons, Region.lexFrom, Bool.and_eq_true] at hB
    obtain ⟨⟨hr, hf⟩, hB'⟩ := hB
    have hst : qOpIn F m P ops C k (wpQuietIn F m P ops C Qa l) a := by unfold qOpIn; simp only [h0]; exact h
    obtain ⟨v, hy, hK⟩ := yieldsQuiet_of_qOpIn h0 hst
    exact wpAnyQIn_first h0 (Region.noSelect_spec hs) l.length listed a (Region.free_spec h0 hf) (by simpa using hr) hy
      (quiet_lex hs l (k + 1) _ _ (fun j hj => by have := hl (j + 1) (by simp; omega); simpa [Nat.add_assoc, Nat.add_comm 1 j] using this) hB' hK)
def markA (N n : Nat) : Array Bool := ((List.range N).map fun i => decide (n ≤ i)).toArray
def headB (ops : Array Oper) (n : Nat) : Bool :=
  Region.noSelect ops && decide (n < ops.size) && Region.sinkB .any ops n && Region.chainB .any ops n && backB .any ops && deferB ops && Region.lexFrom .any ops n 0 (markA ops.size n)
theorem any_of_head {C : World → Prop} {G : Fence} {l : List Oper} {a : Act} {w : World} (hG : ∀ (Q : Exit → Act → World → Prop) (fuel : Nat) (L : Array Bool) (a : Act) (w : World), wpAnyIn Fence.wide m P .any l.toArray Q fuel L a w → wpAnyIn G m P .any l.toArray Q fuel L a w)
    (hB : headB l.toArray n = true) (hC : C w) (h : wpQuiet P l.toArray C (fun a' => ∀ w', C w' → wpListIn G m P l.toArray Q (l.drop n) a' w') (l.take n) a) :
    wpAnyIn G m P .any l.toArray Q l.toArray.size (Array.replicate l.toArray.size false) a w := by
  simp only [headB, Bool.and_eq_true, decide_eq_true_eq] at hB
  obtain ⟨⟨⟨⟨⟨⟨hsel, hn⟩, hs⟩, hc⟩, hk⟩, _⟩, hlex⟩ := hB
  have hn' : n < l.length := by simpa using hn
  have htl : (l.take n).length = n := by simp; omega
  have h1 := quiet_lex (F := Fence.wide) (m := m) (md := .any) hsel (l.take n) 0 _ a (fun j hj => by
    have hj' : j < n := by rw [htl] at hj; exact hj
    simp [hj']) (by rw [htl]; exact hlex) (quiet_wide (m := m) _ _ h)
  rw [htl] at h1
  have h2 := wpAnyIn_of_quiet (F := Fence.wide) (Q' := headQ G m P l.toArray Q n) rfl (fun a' w' hw' h' => by
    have := h' w' hw'
    show wpOpsIn G m P l.toArray Q (List.range' n (l.toArray.size - n)) a' w'
    rw [← wpOpsIn_eq_wpListIn (l.drop n) n (fun j => by simp)] at this
    simpa using this) n _ a w hC h1
  have h3 := split_any (F := G) (Q := Q) hk hs hc hn n (Array.replicate l.toArray.size false) (markA l.toArray.size n) a w
    ⟨by simp, fun j oj _ hl => (by rw [getD_replicate_false] at hl; cases hl), fun t _ ht => getD_in (by simpa using ht) (getD_replicate_false _ _)⟩
    ⟨by simp [markA], fun i hi d => by
      unfold markA
      rcases Nat.lt_or_ge i l.length with h' | h'
      · simp [h']; omega
      · omega, fun i hi => by
      unfold markA
      rcases Nat.lt_or_ge i l.length with h' | h'
      · simp [h', hi]
      · simp [h']⟩ (hG _ _ _ _ _ h2)
  rw [show n + (l.toArray.size - n) = l.toArray.size by omega] at h3
  exact h3
/-- the first n operations only read what W holds; the rest as it stands. -/
theorem regionIn_head {id : Nat} {a : Act} {W : World} {l : List Oper} (n : Nat) (hm : P.follows .mixedOrders = true) (hB : headB l.toArray n = true)
    (h : wpQuiet P l.toArray (fun w' => ∃ x : Past W, w' = x.now) (fun a' => ∀ w', (∃ x : Past W, w' = x.now) → wpListIn Fence.wide m P l.toArray Q (l.drop n) a' w') (l.take n) a) : (Code.region id l.toArray true).wpIn Fence.wide m P Q a W :=
  wpIn_region_any hm (any_of_head (C := fun w' => ∃ x : Past W, w' = x.now) (fun _ _ _ _ _ h => h) hB ⟨⟨_, (Below.refl W.heap.size W).drew⟩, rfl⟩ h)
theorem regionIn_head_round {r id : Nat} {a : Act} {W : World} {l : List Oper} (n : Nat) (hm : P.follows .mixedOrders = true) (hB : headB l.toArray n = true)
    (h : wpQuiet P l.toArray (fun w' => ∃ x : Past W, w' = x.now) (fun a' => ∀ w', (∃ x : Past W, w' = x.now) → wpListIn (Fence.wide.inRound r) m P l.toArray Q (l.drop n) a' w') (l.take n) a) : (Code.region id l.toArray true).wpIn (Fence.wide.inRound r) m P Q a W :=
  wpIn_region_any hm (any_of_head (C := fun w' => ∃ x : Past W, w' = x.now) (fun Q _ _ _ _ h => anyIn_round (by
    simp only [headB, Bool.and_eq_true] at hB
    exact hB.1.2) r _ _ _ _ h) hB ⟨⟨_, (Below.refl W.heap.size W).drew⟩, rfl⟩ h)
end
end Go.Proofs.YtpibeocngkjolaaGreatDoor
