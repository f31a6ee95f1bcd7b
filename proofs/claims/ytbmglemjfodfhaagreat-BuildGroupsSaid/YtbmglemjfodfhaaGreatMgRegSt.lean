/- A region that draws its order, whose last operations stand in a row behind all others: a quiet walk of the first ones, then the last ones as they stand; inside a fence, and in a round. | A region that draws its order, in a round: quiet operations, one of which may come up as late as behind the first of the last ones (a list is loaded, its new element is made, it is appended, stored). | A region that draws its order: operations that leave the world alone, and a row of others (stores) among which they may float; the world at each stage is told. -/
import Derived.Test.YtbmglemjfodfhaaGreatMgSlices
import Derived.BigQuiet
import Derived.OrdersHeld
import Derived.OwnWalkIn
import Derived.Sort.QuietThIn
import Derived.StillTail
import Derived.TacticsIn
set_option linter.unusedVariables false
set_option linter.unusedSimpArgs false
namespace Go.Proofs.YtbmglemjfodfhaaGreat
open Go.RowKit
section
variable {F : Fence} {m n : Nat} {P : Program} {ops : Array Oper} {md : Region.Mode} {Q : Exit → Act → World → Prop}
def backB (md : Region.Mode) (ops : Array Oper) : Bool := (List.range ops.size).all fun j => match ops[j]? with
  | some o => o.after.all fun e => !Region.binds md e || decide (e.on < j)
  | none => true
theorem backB_spec (h : backB md ops = true) {j : Nat} {o : Oper} (hj : ops[j]? = some o) {e : Edge} (he : e ∈ o.after) (hb : Region.binds md e = true) : e.on < j := by
  have hlt : j < ops.size := (Array.getElem?_eq_some_iff.1 hj).1
  have h1 := List.all_eq_true.1 h j (List.mem_range.2 hlt)
  simp only [hj] at h1
  have h2 := Array.all_eq_true'.1 h1 e he
  simpa [hb] using h2
structure Tailed (n : Nat) (L M : Array Bool) : Prop where
  size : M.size = L.size
  low : ∀ i, i < n → ∀ d, M.getD i d = L.getD i d
  high : ∀ i, n ≤ i → M.getD i true = true
theorem Tailed.set {L M : Array Bool} {i : Nat} (h : Tailed n L M) (hi : i < n) : Tailed n (L.setIfInBounds i true) (M.setIfInBounds i true) := by
  refine ⟨by simp [h.size], fun j hj d => ?_, fun j hj => by rw [getD_set_ne true (by omega)]; exact h.high j hj⟩
  by_cases e : i = j
  · subst e
    rcases Nat.lt_or_ge i L.size with h' | h'
    · simp [h', h.size]
    · have e1 := h.low i hi d
      simp only [Array.getD_eq_getD_getElem?] at e1 ⊢
      rw [Array.getElem?_eq_none (by simp [h.size]; omega), Array.getElem?_eq_none (by simp; omega)]
  · rw [getD_set_ne d e, getD_set_ne d e]; exact h.low j hj d
theorem Tailed.ready {L M : Array Bool} {i : Nat} (hk : backB md ops = true) (h : Tailed n L M) (hi : i < n) : i ∈ Region.ready md ops M ↔ i ∈ Region.ready md ops L := by
  rw [mem_ready, mem_ready, h.low i hi]
  refine and_congr_right fun _ => exists_congr fun o => and_congr_right fun ho => ?_
  refine forall_congr' fun e => forall_congr' fun he => forall_congr' fun hb => ?_
  rw [h.low e.on (by have := backB_spec hk ho he hb; omega)]
theorem head_over {L M : Array Bool} (hk : backB md ops = true) (hn : n < ops.size) (hs : L.size = ops.size) (h : Tailed n L M) (hr : Region.ready md ops M = []) : ∀ i, i < n → L.getD i false = true := by
  intro i
  induction i using Nat.strongRecOn with
  | _ i ih =>
    intro hi
    cases hl : L.getD i false with
    | true => rfl
    | false =>
      exfalso
      have hmem : i ∈ Region.ready md ops L := by
        rw [mem_ready]
        refine ⟨getD_in (by omega) hl, ops[i]'(by omega), by simp [show i < ops.size by omega], fun e he hb => ?_⟩
        have := backB_spec hk (j := i) (o := ops[i]'(by omega)) (by simp [show i < ops.size by omega]) he hb
        exact ih e.on this (by omega)
      rw [← h.ready hk hi, hr] at hmem
      cases hmem
theorem ready_one {k : Nat} {L : Array Bool} (hk : backB md ops = true) (hc : Region.chainB md ops n = true) (hnk : n ≤ k) (hklt : k < ops.size) (hs : L.size = ops.size) (hl : ∀ i, i < k → L.getD i false = true)
    (hu : ∀ i, k ≤ i → i < ops.size → L.getD i true = false) : k ∈ Region.ready md ops L ∧ ∀ i, i ∈ Region.ready md ops L → i = k := by
  refine ⟨?_, fun i hi => ?_⟩
  · rw [mem_ready]
    refine ⟨hu k (Nat.le_refl _) hklt, ops[k], by simp [hklt], fun e he hb => ?_⟩
    have := backB_spec hk (j := k) (o := ops[k]) (by simp [hklt]) he hb
    exact hl e.on this
  · obtain ⟨h0, o, ho, hall⟩ := mem_ready.1 hi
    have hlt : i < ops.size := (Array.getElem?_eq_some_iff.1 ho).1
    rcases Nat.lt_trichotomy i k with h1 | h1 | h1
    · have h2 := hl i h1
      rw [getD_both h0] at h2
      cases h2
    · exact h1
    · exfalso
      have h1' := List.all_eq_true.1 hc i (List.mem_range.2 hlt)
      simp only [Bool.or_eq_true, decide_eq_true_eq] at h1'
      rcases h1' with h2 | h2
      · omega
      · obtain ⟨o', ho', e, he, hb, hon⟩ := Region.waitsFor_spec h2
        have h3 := hall e (by rw [← Option.some.inj (ho'.symm.trans ho)]; exact he) hb
        rw [hon, getD_both (hu (i - 1) (by omega) (by omega))] at h3
        cases h3
theorem tail_any (hk : backB md ops = true) (hc : Region.chainB md ops n = true) : ∀ (g k : Nat) (L : Array Bool) (a : Act) (w : World) (fuel : Nat), n ≤ k → k + g = ops.size → L.size = ops.size → (∀ i, i < k → L.getD i false = true) →
    (∀ i, k ≤ i → i < ops.size → L.getD i true = false) → g ≤ fuel → wpOpsIn F m P ops Q (List.range' k g) a w → wpAnyIn F m P md ops Q fuel L a w
  | 0, k, L, a, w, fuel, _, hg, hs, hl, _, _, h => by
    have hr : Region.ready md ops L = [] := by
      refine List.eq_nil_iff_forall_not_mem.2 fun i hi => ?_
      obtain ⟨h0, o, ho, _⟩ := mem_ready.1 hi
      have hlt : i < ops.size := (Array.getElem?_eq_some_iff.1 ho).1
      have h1 := hl i (by omega)
      rw [getD_both h0] at h1
      cases h1
    cases fuel with
    | zero => exact ⟨hr, h⟩
    | succ f => exact ⟨fun _ => h, fun i hi => by rw [hr] at hi; cases hi⟩
  | g + 1, k, L, a, w, fuel, hnk, hg, hs, hl, hu, hf, h => by
    obtain ⟨f, rfl⟩ : ∃ f, fuel = f + 1 := ⟨fuel - 1, by omega⟩
    have hklt : k < ops.size := by omega
    obtain ⟨hmem, honly⟩ := ready_one hk hc hnk hklt hs hl hu
    refine ⟨fun h0 => (by rw [h0] at hmem; cases hmem), fun i hi => ?_⟩
    obtain rfl := honly i hi
    rw [List.range'_succ, wpOpsIn_cons] at h
    refine wpOpIn_mono (fun a' w' h' => tail_any hk hc g (i + 1) _ a' w' f (by omega) (by omega) (by simp [hs]) (fun j hj => ?_) (fun j hj hj2 => ?_) (by omega) (by simpa using h')) h
    · by_cases e : i = j
      · subst e; simp [hs, hklt]
      · exact getD_set_true (hl j (by omega))
    · rw [getD_set_ne true (by omega)]; exact hu j (by omega) hj2
def headQ (F : Fence) (m : Nat) (P : Program) (ops : Array Oper) (Q : Exit → Act → World → Prop) (n : Nat) : Exit → Act → World → Prop
  | .normal => wpOpsIn F m P ops Q (List.range' n (ops.size - n))
  | e => Q e
theorem upon_headQ {G : Fence} {j : Nat} (o : Oper) (a : Act) (K : Act → World → Prop) (r : Result Next) : o.uponIn F m P a K (headQ G j P ops Q n) r = o.uponIn F m P a K Q r := by
  cases r with
  | ok x w' => cases x <;> rfl
  | halt x w' => cases x <;> rfl
theorem wpOpIn_headQ {G : Fence} {j i : Nat} {K : Act → World → Prop} {a : Act} {w : World} : wpOpIn F m P ops (headQ G j P ops Q n) i K a w ↔ wpOpIn F m P ops Q i K a w := by
  unfold wpOpIn Oper.wpIn
  simp only [upon_headQ]
theorem split_any (hk : backB md ops = true) (hs : Region.sinkB md ops n = true) (hc : Region.chainB md ops n = true) (hn : n < ops.size) : ∀ (fuel : Nat) (L M : Array Bool) (a : Act) (w : World), HeadInv md ops n L → Tailed n L M →
    wpAnyIn F m P md ops (headQ F m P ops Q n) fuel M a w → wpAnyIn F m P md ops Q (fuel + (ops.size - n)) L a w := by
  intro fuel
  induction fuel with
  | zero =>
    intro L M a w inv ht h
    exact tail_any hk hc (ops.size - n) n L a w _ (Nat.le_refl _) (by omega) inv.size (head_over hk hn inv.size ht h.1) (fun i h1 h2 => inv.tail i h1 h2) (by omega) h.2
  | succ fuel ih =>
    intro L M a w inv ht h
    by_cases hr : Region.ready md ops M = []
    · exact tail_any hk hc (ops.size - n) n L a w _ (Nat.le_refl _) (by omega) inv.size (head_over hk hn inv.size ht hr) (fun i h1 h2 => inv.tail i h1 h2) (by omega) (h.1 hr)
    · obtain ⟨i, hi⟩ := List.exists_mem_of_ne_nil _ hr
      have h0 := (mem_ready.1 hi).1
      have hin : i < n := by
        rcases Nat.lt_or_ge i n with h1 | h1
        · exact h1
        · rw [ht.high i h1] at h0; cases h0
      have hiL := (ht.ready hk hin).1 hi
      rw [show fuel + 1 + (ops.size - n) = (fuel + (ops.size - n)) + 1 by omega]
      refine ⟨fun h1 => (by rw [h1] at hiL; cases hiL), fun j hj => ?_⟩
      have hjn : j < n := by
        rcases Nat.lt_or_ge j n with h1 | h1
        · exact h1
        · exact absurd hj (tail_waits hs hc hn inv _ i rfl hin (mem_ready.1 hiL).1 j h1)
      have hjM := (ht.ready hk hjn).2 hj
      exact wpOpIn_mono (fun a' w' h' => ih _ _ a' w' (inv.set hj hjn) (ht.set hjn) h') (wpOpIn_headQ.1 (h.2 j hjM))
/-! ### in a round -/
def deferB (ops : Array Oper) : Bool := ops.all fun o => match o.op with | .defer _ => false | _ => true
theorem upon_round (r : Nat) (o : Oper) (a : Act) (K : Act → World → Prop) (x : Result Next) : o.uponIn (F.inRound r) m P a K Q x = o.uponIn F m P a K Q x := by
  cases x with
  | ok x w' => cases x <;> rfl
  | halt x w' => cases x <;> rfl
theorem opIn_round (hd : deferB ops = true) (r i : Nat) {K : Act → World → Prop} {a : Act} {w : World} (h : wpOpIn F m P ops Q i K a w) : wpOpIn (F.inRound r) m P ops Q i K a w := by
  unfold wpOpIn at *
  split
  · rename_i ho; simpa [ho] using h
  · rename_i o ho
    simp only [ho] at h
    have h1 := Array.all_eq_true'.1 hd o (Array.mem_of_getElem? ho)
    have he : ∀ s, o.semAt s a.eval = execOp a.eval o := fun s => Oper.semAt_eq s _ _ (fun c hc => by rw [hc] at h1; cases h1)
    split
    · rename_i hw
      simp only [hw, if_true, Oper.wpIn, he] at h ⊢
      rw [upon_round]
      exact h
    · rename_i hw
      simp only [hw] at h
      exact h
theorem anyIn_round (hd : deferB ops = true) (r : Nat) : ∀ (fuel : Nat) (L : Array Bool) (a : Act) (w : World), wpAnyIn F m P md ops Q fuel L a w → wpAnyIn (F.inRound r) m P md ops Q fuel L a w
  | 0, _, _, _, h => h
  | fuel + 1, _, _, _, h => ⟨h.1, fun i hi => opIn_round hd r i (wpOpIn_mono (fun a' w' h' => anyIn_round hd r fuel _ a' w' h') (h.2 i hi))⟩
/-! ### the head, quiet -/
theorem quiet_wide {C : World → Prop} {Q : Act → Prop} : ∀ (l : List Oper) (a : Act), wpQuiet P ops C Q l a → wpQuietIn Fence.wide m P ops C Q l a
  | [], _, h => h
  | o :: rest, a, h => by
    refine ⟨fun _ _ _ _ => trivial, ?_⟩
    unfold wpQuiet at h
    split
    · rename_i hw
      rw [if_pos hw] at h
      obtain ⟨v, h1, h2⟩ := h
      refine ⟨v, fun w hC => ?_, quiet_wide rest _ h2⟩
      have h3 := h1 w hC
      unfold Oper.quietAt at h3
      unfold Oper.quietAtIn
      generalize (execOp a.eval o).run P w = x at *
      cases x with
      | ok x w' =>
        cases x <;> simp only [Oper.quietUpon] at h3 <;> simp only [Oper.quietUponIn]
        case value => exact h3
        case skip => exact h3
        case enter => exact ⟨h3.1, (fun h => (by cases h)), callsIn_wide.2 h3.2⟩
      | halt x w' => cases h3
    · rename_i hw
      rw [if_neg hw] at h
      exact quiet_wide rest _ h
theorem quiet_lex {C : World → Prop} {Qa : Act → Prop} (hs : Region.noSelect ops = true) : ∀ (l : List Oper) (k : Nat) (listed : Array Bool) (a : Act), (∀ j, j < l.length → l[j]? = ops[k + j]?) →
    Region.lexFrom md ops l.length k listed = true → wpQuietIn F m P ops C Qa l a → wpAnyQIn F m P md ops C Qa l.length listed a
  | [], _, _, _, _, hB, h => ⟨by simpa [Region.lexFrom] using hB, h⟩
  | o :: l, k, listed, a, hl, hB, h => by
    have h0 : ops[k]? = some o := by simpa using (hl 0 (by simp)).symm
    simp only [List.length_cons, Region.lexFrom, Bool.and_eq_true] at hB
    obtain ⟨⟨hr, hf⟩, hB'⟩ := hB
    have hst : qOpIn F m P ops C k (wpQuietIn F m P ops C Qa l) a := by unfold qOpIn; simp only [h0]; exact h
    obtain ⟨v, hy, hK⟩ := yieldsQuiet_of_qOpIn h0 hst
    exact wpAnyQIn_first h0 (Region.noSelect_spec hs) l.length listed a (Region.free_spec h0 hf) (by simpa using hr) hy
      (quiet_lex hs l (k + 1) _ _ (fun j hj => by have := hl (j + 1) (by simp; omega); simpa [Nat.add_assoc, Nat.add_comm 1 j] using this) hB' hK)
def markA (N n : Nat) : Array Bool := ((List.range N).map fun i => decide (n ≤ i)).toArray
def headB (ops : Array Oper) (n : Nat) : Bool :=
  Region.noSelect ops && decide (n < ops.size) && Region.sinkB .any ops n && Region.chainB .any ops n && backB .any ops && deferB ops && Region.lexFrom .any ops n 0 (markA ops.size n)
theorem any_of_head {C : World → Prop} {G : Fence} {l : List Oper} {a : Act} {w : World} (hG : ∀ (Q : Exit → Act → World → Prop) (fuel : Nat) (L : Array Bool) (a : Act) (w : World), wpAnyIn Fence.wide m P .any l.toArray Q fuel L a w → wpAnyIn G m P .any l.toArray Q fuel L a w)
    (hB : headB l.toArray n = true) (hC : C w) (h : wpQuiet P l.toArray C (fun a' => ∀ w', C w' → wpListIn G m P l.toArray Q (l.drop n) a' w') (l.take n) a) :
    wpAnyIn G m P .any l.toArray Q l.toArray.size (Array.replicate l.toArray.size false) a w := by
  simp only [headB, Bool.and_eq_true, decide_eq_true_eq] at hB
  obtain ⟨⟨⟨⟨⟨⟨hsel, hn⟩, hs⟩, hc⟩, hk⟩, _⟩, hlex⟩ := hB
  have hn' : n < l.length := by simpa using hn
  have htl : (l.take n).length = n := by simp; omega
  have h1 := quiet_lex (F := Fence.wide) (m := m) (md := .any) hsel (l.take n) 0 _ a (fun j hj => by
    have hj' : j < n := by rw [htl] at hj; exact hj
    simp [hj']) (by rw [htl]; exact hlex) (quiet_wide (m := m) _ _ h)
  rw [htl] at h1
  have h2 := wpAnyIn_of_quiet (F := Fence.wide) (Q' := headQ G m P l.toArray Q n) rfl (fun a' w' hw' h' => by
    have := h' w' hw'
    show wpOpsIn G m P l.toArray Q (List.range' n (l.toArray.size - n)) a' w'
    rw [← wpOpsIn_eq_wpListIn (l.drop n) n (fun j => by simp)] at this
    simpa using this) n _ a w hC h1
  have h3 := split_any (F := G) (Q := Q) hk hs hc hn n (Array.replicate l.toArray.size false) (markA l.toArray.size n) a w
    ⟨by simp, fun j oj _ hl => (by rw [getD_replicate_false] at hl; cases hl), fun t _ ht => getD_in (by simpa using ht) (getD_replicate_false _ _)⟩
    ⟨by simp [markA], fun i hi d => by
      unfold markA
      rcases Nat.lt_or_ge i l.length with h' | h'
      · simp [h']; omega
      · omega, fun i hi => by
      unfold markA
      rcases Nat.lt_or_ge i l.length with h' | h'
      · simp [h', hi]
      · simp [h']⟩ (hG _ _ _ _ _ h2)
  rw [show n + (l.toArray.size - n) = l.toArray.size by omega] at h3
  exact h3
theorem regionIn_head {id : Nat} {a : Act} {W : World} {l : List Oper} (n : Nat) (hm : P.follows .mixedOrders = true) (hB : headB l.toArray n = true)
    (h : wpQuiet P l.toArray (fun w' => ∃ x : Past W, w' = x.now) (fun a' => ∀ w', (∃ x : Past W, w' = x.now) → wpListIn Fence.wide m P l.toArray Q (l.drop n) a' w') (l.take n) a) : (Code.region id l.toArray true).wpIn Fence.wide m P Q a W :=
  wpIn_region_any hm (any_of_head (C := fun w' => ∃ x : Past W, w' = x.now) (fun _ _ _ _ _ h => h) hB ⟨⟨_, (Below.refl W.heap.size W).drew⟩, rfl⟩ h)
theorem regionIn_head_round {r id : Nat} {a : Act} {W : World} {l : List Oper} (n : Nat) (hm : P.follows .mixedOrders = true) (hB : headB l.toArray n = true)
    (h : wpQuiet P l.toArray (fun w' => ∃ x : Past W, w' = x.now) (fun a' => ∀ w', (∃ x : Past W, w' = x.now) → wpListIn (Fence.wide.inRound r) m P l.toArray Q (l.drop n) a' w') (l.take n) a) : (Code.region id l.toArray true).wpIn (Fence.wide.inRound r) m P Q a W :=
  wpIn_region_any hm (any_of_head (C := fun w' => ∃ x : Past W, w' = x.now) (fun Q _ _ _ _ h => anyIn_round (by
    simp only [headB, Bool.and_eq_true] at hB
    exact hB.1.2) r _ _ _ _ h) hB ⟨⟨_, (Below.refl W.heap.size W).drew⟩, rfl⟩ h)
end
end Go.Proofs.YtbmglemjfodfhaaGreat
namespace Go.Proofs.YtbmglemjfodfhaaGreat
open Go.RowKit
section
variable {m n : Nat} {P : Program} {ops : Array Oper} {md : Region.Mode} {Q : Exit → Act → World → Prop} {C : World → Prop}
def wpAnyC (m : Nat) (P : Program) (md : Region.Mode) (ops : Array Oper) (Q : Exit → Act → World → Prop) (C : World → Prop) (N : Nat) : Nat → Array Bool → Act → World → Prop
  | 0, L, a, w => Region.ready md ops L = [] ∧ Q .normal a w
  | fuel + 1, L, a, w => (Region.ready md ops L = [] → Q .normal a w) ∧
    ∀ i ∈ Region.ready md ops L, wpOpIn Fence.wide m P ops Q i (fun a' w' => (i < N → C w') ∧ wpAnyC m P md ops Q C N fuel (L.setIfInBounds i true) a' w') a w
theorem any_of_C {N : Nat} : ∀ (fuel : Nat) (L : Array Bool) (a : Act) (w : World), wpAnyC m P md ops Q C N fuel L a w → wpAnyIn Fence.wide m P md ops Q fuel L a w
  | 0, _, _, _, h => h
  | fuel + 1, _, _, _, h => ⟨h.1, fun i hi => wpOpIn_mono (fun a' w' h' => any_of_C fuel _ a' w' h'.2) (h.2 i hi)⟩
def onlyN (Q : Exit → Act → World → Prop) : Exit → Act → World → Prop
  | .normal => Q .normal
  | _ => fun _ _ => False
theorem onlyN_sub {a : Act} {w : World} {F : Fence} {id : Nat} {d : Bool} (h : (Code.region id ops d).wpIn F m P (onlyN Q) a w) : (Code.region id ops d).wpIn F m P Q a w :=
  Code.wpIn_mono (fun e a w h => by cases e <;> first | exact h | exact h.elim) h
theorem opIn_put {j : Nat} {oi oj : Oper} {v : Value} (hj : ops[j]? = some oj) (hap : oi.apart ops oj = true) (hsi : ∀ cs b, oi.op ≠ .select cs b) (hsj : ∀ cs b, oj.op ≠ .select cs b)
    (hQ : ∀ c a w, Q (.panic c) (a.put oi.dst v) w → Q (.panic c) a w) {K : Act → World → Prop} {a : Act} {w : World}
    (hy : YieldsIf P ops C oi v a) (h : wpOpIn Fence.wide m P ops Q j K (a.put oi.dst v) w) :
    wpOpIn Fence.wide m P ops Q j (fun a' w' => YieldsIf P ops C oi v a' ∧ K (a'.put oi.dst v) w') a w := by
  obtain ⟨h1, h2, h3⟩ := Oper.apart_spec hap
  have keep : ∀ (a : Act), YieldsIf P ops C oi v a → ∀ u, YieldsIf P ops C oi v (a.put oj.dst u) := fun a hy u =>
    hy.of_same (execOp_put oi hsi a oj.dst u h3) (wanted_put oi a oj.dst u h3)
  unfold wpOpIn at *
  simp only [hj] at *
  rw [wanted_put oj a oi.dst v h1] at h
  split
  · rename_i hw
    simp only [hw, if_true, Oper.wpIn, Fence.wide_round, Oper.semAt_none] at h ⊢
    refine ⟨fun _ _ => trivial, ?_⟩
    have h := h.2
    rw [execOp_put oj hsj a oi.dst v h1] at h
    generalize (execOp a.eval oj).run P w = x at *
    cases x with
    | ok x w' =>
      cases x <;> simp only [Oper.uponIn] at h ⊢
      case value u => exact ⟨keep a hy u, by rw [← Act.put_comm a v u h2]; exact h⟩
      case skip => exact ⟨keep a hy _, by rw [← Act.put_comm a v undef h2]; exact h⟩
      case defer d =>
        have hy2 : YieldsIf P ops C oi v { a with defers := d :: a.defers } := hy.of_same rfl rfl
        refine ⟨keep _ hy2 _, ?_⟩
        rw [← Act.put_comm _ v undef h2, ← Act.put_defers]
        exact h
      case enter f args =>
        refine ⟨h.1, CallsIn.mono h.2 fun e w'' he => ?_⟩
        cases e with
        | returned u => exact ⟨keep a hy u, by rw [← Act.put_comm a v u h2]; exact he⟩
        | panicked c => exact hQ _ _ _ he
        | outgrown => exact he
      case row row args => exact ⟨h.1, RowsIn.mono h.2 fun u w'' he => ⟨keep a hy u, by rw [← Act.put_comm a v u h2]; exact he⟩⟩
      case round =>
        refine ⟨h.1, RoundIn.mono h.2 fun e w'' he => ?_⟩
        cases e with
        | returned u => exact ⟨keep a hy u, by rw [← Act.put_comm a v u h2]; exact he⟩
        | panicked c => exact hQ _ _ _ he
        | outgrown => exact he
    | halt x w' =>
      cases x <;> simp only [Oper.uponIn] at h ⊢
      case panic u => exact hQ _ _ _ h
  · rename_i hw
    simp only [hw] at h
    exact ⟨fun _ _ => trivial, keep a hy _, by rw [← Act.put_comm a v undef h2]; exact h.2⟩
theorem still_op {i : Nat} {o : Oper} {v : Value} {a : Act} {w : World} {K : Act → World → Prop} (hi : ops[i]? = some o) (hy : YieldsIf P ops C o v a) (hC : C w) (h : K (a.put o.dst v) w) : wpOpIn Fence.wide m P ops Q i K a w := by
  unfold wpOpIn
  simp only [hi]
  rcases hy with ⟨hw, hv⟩ | ⟨hw, rfl⟩
  · simp only [hw, if_true, Oper.wpIn, Fence.wide_round, Oper.semAt_none, hv w hC, Oper.uponIn]; exact ⟨fun _ _ => trivial, h⟩
  · simp only [hw, Bool.false_eq_true, if_false]; exact ⟨fun _ _ => trivial, h⟩
theorem firstC {N i : Nat} {oi : Oper} {v : Value} (hi : ops[i]? = some oi) (hsel : ∀ (j : Nat) (o : Oper) cs b, ops[j]? = some o → o.op ≠ .select cs b)
    (hs : Region.sinkB md ops N = true) (hc : Region.chainB md ops N = true) (hn : N < ops.size) (hiN : i < N) (hQ : ∀ c a w, Q (.panic c) (a.put oi.dst v) w → Q (.panic c) a w) :
    ∀ (fuel : Nat) (L : Array Bool) (a : Act) (w : World), HeadInv md ops N L →
      (∀ j oj, ops[j]? = some oj → j ≠ i → L.getD j true = false → (∀ e ∈ oj.after, Region.binds md e = true → e.on ≠ i) → oi.apart ops oj = true) →
      i ∈ Region.ready md ops L → YieldsIf P ops C oi v a → C w →
      wpAnyC m P md ops Q C N fuel (L.setIfInBounds i true) (a.put oi.dst v) w → wpAnyC m P md ops Q C N (fuel + 1) L a w := by
  intro fuel
  induction fuel with
  | zero =>
    intro L a w inv _ hr hy hC H
    refine ⟨fun h => (by rw [h] at hr; cases hr), fun j hj => ?_⟩
    by_cases hji : j = i
    · subst hji; exact still_op hi hy hC ⟨fun _ => hC, H⟩
    · have := ready_mono hj hji
      rw [H.1] at this
      cases this
  | succ fuel ih =>
    intro L a w inv hfree hr hy hC H
    have hun := (mem_ready.1 hr).1
    refine ⟨fun h => (by rw [h] at hr; cases hr), fun j hj => ?_⟩
    by_cases hji : j = i
    · subst hji; exact still_op hi hy hC ⟨fun _ => hC, H⟩
    · have hjN : j < N := by
        rcases Nat.lt_or_ge j N with h | h
        · exact h
        · exact absurd hj (tail_waits hs hc hn inv _ i rfl hiN hun j h)
      have h1 := H.2 j (ready_mono hj hji)
      obtain ⟨hjun, oj, hoj, hall⟩ := mem_ready.1 hj
      have hnot : ∀ e ∈ oj.after, Region.binds md e = true → e.on ≠ i := fun e he hb heq => by
        have h1 := hall e he hb
        rw [heq, getD_both hun] at h1
        cases h1
      have h2 := opIn_put hoj (hfree j oj hoj hji hjun hnot) (fun cs b => hsel i oi cs b hi) (fun cs b => hsel j oj cs b hoj) hQ hy h1
      have hfree' : ∀ k ok, ops[k]? = some ok → k ≠ i → (L.setIfInBounds j true).getD k true = false →
          (∀ e ∈ ok.after, Region.binds md e = true → e.on ≠ i) → oi.apart ops ok = true := fun k ok hk hki hun hno => by
        refine hfree k ok hk hki ?_ hno
        by_cases hjk : j = k
        · subst hjk; exact hjun
        · rw [getD_set_ne true hjk] at hun; exact hun
      refine wpOpIn_mono (fun a' w' h3 => ⟨h3.2.1, ih _ a' w' (inv.set hj hjN) hfree' (ready_mono hr (Ne.symm hji)) h3.1 (h3.2.1 hjN) ?_⟩) h2
      rw [Array.setIfInBounds_comm _ _ hji]
      exact h3.2.2
theorem tail_anyC {N : Nat} (hk : backB md ops = true) (hc : Region.chainB md ops n = true) : ∀ (g k : Nat) (L : Array Bool) (a : Act) (w : World) (fuel : Nat), n ≤ k → N ≤ k → k + g = ops.size → L.size = ops.size → (∀ i, i < k → L.getD i false = true) →
    (∀ i, k ≤ i → i < ops.size → L.getD i true = false) → g ≤ fuel → wpOpsIn Fence.wide m P ops Q (List.range' k g) a w → wpAnyC m P md ops Q C N fuel L a w
  | 0, k, L, a, w, fuel, _, _, hg, hs, hl, _, _, h => by
    have hr : Region.ready md ops L = [] := by
      refine List.eq_nil_iff_forall_not_mem.2 fun i hi => ?_
      obtain ⟨h0, o, ho, _⟩ := mem_ready.1 hi
      have hlt : i < ops.size := (Array.getElem?_eq_some_iff.1 ho).1
      have h1 := hl i (by omega)
      rw [getD_both h0] at h1
      cases h1
    cases fuel with
    | zero => exact ⟨hr, h⟩
    | succ f => exact ⟨fun _ => h, fun i hi => by rw [hr] at hi; cases hi⟩
  | g + 1, k, L, a, w, fuel, hnk, hNk, hg, hs, hl, hu, hf, h => by
    obtain ⟨f, rfl⟩ : ∃ f, fuel = f + 1 := ⟨fuel - 1, by omega⟩
    have hklt : k < ops.size := by omega
    obtain ⟨hmem, honly⟩ := ready_one hk hc hnk hklt hs hl hu
    refine ⟨fun h0 => (by rw [h0] at hmem; cases hmem), fun i hi => ?_⟩
    obtain rfl := honly i hi
    rw [List.range'_succ, wpOpsIn_cons] at h
    refine wpOpIn_mono (fun a' w' h' => ⟨fun h0 => absurd h0 (by omega), tail_anyC hk hc g (i + 1) _ a' w' f (by omega) (by omega) (by omega) (by simp [hs]) (fun j hj => ?_) (fun j hj hj2 => ?_) (by omega) (by simpa using h')⟩) h
    · by_cases e : i = j
      · subst e; simp [hs, hklt]
      · exact getD_set_true (hl j (by omega))
    · rw [getD_set_ne true (by omega)]; exact hu j (by omega) hj2
def sinkZ (md : Region.Mode) (ops : Array Oper) (n : Nat) : Bool :=
  (List.range n).all fun i => (i == 0) || (List.range (n + 1)).any fun j => decide (i < j) && Region.waitsFor md ops j i
theorem tail_waits1 {n : Nat} {listed : Array Bool} (hs : sinkZ md ops n = true) (hc : Region.chainB md ops n = true) (hn : n < ops.size) (inv : HeadInv md ops n listed) :
    ∀ (d i : Nat), n - i = d → i < n → i ≠ 0 → listed.getD i true = false → ∀ t, n ≤ t → t ∉ Region.ready md ops listed := by
  intro d
  induction d using Nat.strongRecOn with
  | _ d ih =>
    intro i hd hi hi0 hun t ht hr
    obtain ⟨_, ot, hot, hall⟩ := mem_ready.1 hr
    have htlt : t < ops.size := (Array.getElem?_eq_some_iff.1 hot).1
    by_cases htn : t = n
    · have h1 := List.all_eq_true.1 hs i (List.mem_range.2 hi)
      simp only [Bool.or_eq_true, beq_iff_eq, hi0, false_or] at h1
      obtain ⟨j, hj, hj2⟩ := List.any_eq_true.1 h1
      simp only [Bool.and_eq_true, decide_eq_true_eq] at hj2
      obtain ⟨oj, hoj, e, he, hb, hon⟩ := Region.waitsFor_spec hj2.2
      have hjle : j ≤ n := by have := List.mem_range.1 hj; omega
      by_cases hjt : j = t
      · have h2 := hall e (by rw [hjt] at hoj; rw [← Option.some.inj (hoj.symm.trans hot)]; exact he) hb
        rw [hon, getD_both hun] at h2
        cases h2
      · cases hl : listed.getD j false with
        | true =>
          have h2 := inv.closed j oj hoj hl e he hb
          rw [hon, getD_both hun] at h2
          cases h2
        | false =>
          have hjs : j < listed.size := by rw [inv.size]; omega
          exact ih (n - j) (by omega) j rfl (by omega) (by omega) (getD_in hjs hl) t ht hr
    · have h1 := List.all_eq_true.1 hc t (List.mem_range.2 htlt)
      simp only [Bool.or_eq_true, decide_eq_true_eq] at h1
      rcases h1 with h1 | h1
      · omega
      · obtain ⟨o', ho', e, he, hb, hon⟩ := Region.waitsFor_spec h1
        have h2 := hall e (by rw [← Option.some.inj (ho'.symm.trans hot)]; exact he) hb
        rw [hon, getD_both (inv.tail (t - 1) (by omega) (by omega))] at h2
        cases h2
theorem split_anyC {Qa : Act → Prop} (hk : backB md ops = true) (hs : sinkZ md ops n = true) (hc : Region.chainB md ops n = true) (hn : n < ops.size)
    (hQa : ∀ a w, C w → Qa a → wpOpIn Fence.wide m P ops Q n (fun a' w' => C w' ∧ wpOpsIn Fence.wide m P ops Q (List.range' (n + 1) (ops.size - (n + 1))) a' w') a w) :
    ∀ (fuel : Nat) (L M : Array Bool) (a : Act) (w : World), HeadInv md ops n L → L.getD 0 false = true → Tailed n L M → C w →
    wpAnyQIn Fence.wide m P md ops C Qa fuel M a → wpAnyC m P md ops Q C (n + 1) (fuel + (ops.size - n)) L a w := by
  have fin : ∀ (L M : Array Bool) (a : Act) (w : World) (fuel : Nat), HeadInv md ops n L → Tailed n L M → C w → Region.ready md ops M = [] → Qa a → ops.size - n ≤ fuel → wpAnyC m P md ops Q C (n + 1) fuel L a w := by
    intro L M a w fuel inv ht hC hr hq hf
    have hl := head_over hk hn inv.size ht hr
    obtain ⟨f, rfl⟩ : ∃ f, fuel = f + 1 := ⟨fuel - 1, by omega⟩
    obtain ⟨hmem, honly⟩ := ready_one hk hc (Nat.le_refl n) hn inv.size hl (fun i h1 h2 => inv.tail i h1 h2)
    refine ⟨fun h0 => (by rw [h0] at hmem; cases hmem), fun i hi => ?_⟩
    obtain rfl := honly i hi
    refine wpOpIn_mono (fun a' w' h' => ⟨fun _ => h'.1, tail_anyC hk hc (ops.size - (i + 1)) (i + 1) _ a' w' f (by omega) (Nat.le_refl _) (by omega) (by simp [inv.size]) (fun j hj => ?_) (fun j hj hj2 => ?_) (by omega) h'.2⟩) (hQa a w hC hq)
    · by_cases e : i = j
      · subst e; simp [inv.size, hn]
      · exact getD_set_true (hl j (by omega))
    · rw [getD_set_ne true (by omega)]; exact inv.tail j (by omega) hj2
  intro fuel
  induction fuel with
  | zero => intro L M a w inv h00 ht hC h; exact fin L M a w _ inv ht hC h.1 h.2 (by omega)
  | succ fuel ih =>
    intro L M a w inv h00 ht hC h
    by_cases hr : Region.ready md ops M = []
    · exact fin L M a w _ inv ht hC hr (h.1 hr) (by omega)
    · obtain ⟨i, hi⟩ := List.exists_mem_of_ne_nil _ hr
      have h0 := (mem_ready.1 hi).1
      have hin : i < n := by
        rcases Nat.lt_or_ge i n with h1 | h1
        · exact h1
        · rw [ht.high i h1] at h0; cases h0
      have hiL := (ht.ready hk hin).1 hi
      have hi0 : i ≠ 0 := fun e => by
        have := (mem_ready.1 hiL).1
        rw [e] at this
        rw [getD_both this] at h00; cases h00
      rw [show fuel + 1 + (ops.size - n) = (fuel + (ops.size - n)) + 1 by omega]
      refine ⟨fun h1 => (by rw [h1] at hiL; cases hiL), fun j hj => ?_⟩
      have hjn : j < n := by
        rcases Nat.lt_or_ge j n with h1 | h1
        · exact h1
        · exact absurd hj (tail_waits1 hs hc hn inv _ i rfl hin hi0 (mem_ready.1 hiL).1 j h1)
      have hjM := (ht.ready hk hjn).2 hj
      exact wpOpIn_of_qOpIn rfl hC (fun a' w' hw' h' => ⟨fun _ => hw', ih _ _ a' w' (inv.set hj hjn) (getD_set_true h00) (ht.set hjn) hw' h'⟩) (h.2 j hjM)
def markZ (N n : Nat) : Array Bool := ((List.range N).map fun i => decide (i = 0 ∨ n ≤ i)).toArray
def floatB (ops : Array Oper) (n : Nat) : Bool :=
  Region.noSelect ops && decide (0 < n ∧ n + 1 < ops.size) && Region.sinkB .any ops (n + 1) && Region.chainB .any ops (n + 1) && sinkZ .any ops n && Region.chainB .any ops n && backB .any ops && deferB ops
    && (Region.ready .any ops (Array.replicate ops.size false)).contains 0 && Region.free .any ops (Array.replicate ops.size false) 0 && Region.lexFrom .any ops (n - 1) 1 (markZ ops.size n)
theorem any_of_float {l : List Oper} {o on : Oper} {v : Value} {a : Act} {w : World} (hB : floatB l.toArray n = true) (ho : l[0]? = some o) (hon : l[n]? = some on) (hgn : on.guard = none)
    (hQ : ∀ c a w, Q (.panic c) (a.put o.dst v) w → Q (.panic c) a w) (hy : YieldsIf P l.toArray C o v a) (hC : C w)
    (h : wpQuiet P l.toArray C (fun a' => ∀ w', C w' → on.wpIn Fence.wide m P a' w' (fun a'' w'' => C w'' ∧ wpListIn Fence.wide m P l.toArray Q (l.drop (n + 1)) a'' w'') Q) ((l.take n).drop 1) (a.put o.dst v)) :
    wpAnyIn Fence.wide m P .any l.toArray Q l.toArray.size (Array.replicate l.toArray.size false) a w := by
  simp only [floatB, Bool.and_eq_true, decide_eq_true_eq] at hB
  obtain ⟨⟨⟨⟨⟨⟨⟨⟨⟨⟨hsel, hn⟩, hs1⟩, hc1⟩, hsz⟩, hc⟩, hk⟩, _⟩, hr0⟩, hf0⟩, hlex⟩ := hB
  have hlen : ((l.take n).drop 1).length = n - 1 := by simp at hn ⊢; omega
  have inv0 : ∀ N, HeadInv .any l.toArray N (Array.replicate l.toArray.size false) := fun N =>
    ⟨by simp, fun j oj _ hl => (by rw [getD_replicate_false] at hl; cases hl), fun t _ ht => getD_in (by simpa using ht) (getD_replicate_false _ _)⟩
  have hr0' : 0 ∈ Region.ready .any l.toArray (Array.replicate l.toArray.size false) := by simpa using hr0
  have ho' : l.toArray[0]? = some o := by simpa using ho
  have h1 := quiet_lex (F := Fence.wide) (m := m) (md := .any) hsel ((l.take n).drop 1) 1 (markZ l.toArray.size n) _ (fun j hj => by
    rw [hlen] at hj
    simp only [List.getElem?_drop, List.getElem?_take, List.getElem?_toArray]
    rw [if_pos (by omega)]) (by rw [hlen]; exact hlex) (quiet_wide (m := m) _ _ h)
  rw [hlen] at h1
  have inv1 := (inv0 n).set hr0' hn.1
  have h2 := split_anyC (m := m) (Q := Q) (n := n) hk hsz hc (by omega) (fun a' w' hw' h' => by
    have h3 := h' w' hw'
    have hw : Region.wanted on (yielded l.toArray a'.tmps) = true := by unfold Region.wanted; rw [hgn]
    unfold wpOpIn
    simp only [show l.toArray[n]? = some on by simpa using hon, hw, if_true]
    refine Oper.wpIn_mono (fun a'' w'' h4 => ⟨h4.1, ?_⟩) h3
    have h5 := h4.2
    rw [← wpOpsIn_eq_wpListIn (l.drop (n + 1)) (n + 1) (fun j => by simp)] at h5
    simpa using h5) (n - 1) ((Array.replicate l.toArray.size false).setIfInBounds 0 true) (markZ l.toArray.size n) _ w inv1 (by simp at hn; simp [show 0 < l.length by omega])
    ⟨by simp [markZ], fun i hi d => by
      have hil : i < l.length := by simp at hn; omega
      unfold markZ
      by_cases e : i = 0
      · subst e; simp [hil]
      · rw [getD_set_ne d (fun h => e h.symm)]; simp [hil, e]; omega, fun i hi => by
      unfold markZ
      rcases Nat.lt_or_ge i l.length with h' | h'
      · simp [h', hi]
      · simp [h']⟩ hC h1
  have h3 := firstC (m := m) (Q := Q) ho' (Region.noSelect_spec hsel) hs1 hc1 hn.2 (show 0 < n + 1 by omega) hQ (n - 1 + (l.toArray.size - n)) _ a w (inv0 (n + 1)) (Region.free_spec ho' hf0) hr0' hy hC h2
  rw [show n - 1 + (l.toArray.size - n) + 1 = l.toArray.size by omega] at h3
  exact any_of_C _ _ _ _ h3
theorem regionIn_float_round {r id : Nat} {a : Act} {W : World} {l : List Oper} {o on : Oper} {v : Value} (n : Nat) (hm : P.follows .mixedOrders = true) (hB : floatB l.toArray n = true) (ho : l[0]? = some o) (hon : l[n]? = some on) (hgn : on.guard = none)
    (hy : YieldsIf P l.toArray (fun w' => ∃ x : Past W, w' = x.now) o v a)
    (h : wpQuiet P l.toArray (fun w' => ∃ x : Past W, w' = x.now) (fun a' => ∀ w', (∃ x : Past W, w' = x.now) → on.wpIn Fence.wide m P a' w' (fun a'' w'' => (∃ x : Past W, w'' = x.now) ∧ wpListIn Fence.wide m P l.toArray (onlyN Q) (l.drop (n + 1)) a'' w'') (onlyN Q)) ((l.take n).drop 1) (a.put o.dst v)) :
    (Code.region id l.toArray true).wpIn (Fence.wide.inRound r) m P Q a W :=
  onlyN_sub (wpIn_region_any hm (anyIn_round (by
    simp only [floatB, Bool.and_eq_true] at hB
    exact hB.1.1.1.2) r _ _ _ _ (any_of_float (C := fun w' => ∃ x : Past W, w' = x.now) hB ho hon hgn (fun _ _ _ h => h) hy ⟨⟨_, (Below.refl W.heap.size W).drew⟩, rfl⟩ h)))
theorem regionIn_float {id : Nat} {a : Act} {W : World} {l : List Oper} {o on : Oper} {v : Value} (n : Nat) (hm : P.follows .mixedOrders = true) (hB : floatB l.toArray n = true) (ho : l[0]? = some o) (hon : l[n]? = some on) (hgn : on.guard = none)
    (hy : YieldsIf P l.toArray (fun w' => ∃ x : Past W, w' = x.now) o v a)
    (h : wpQuiet P l.toArray (fun w' => ∃ x : Past W, w' = x.now) (fun a' => ∀ w', (∃ x : Past W, w' = x.now) → on.wpIn Fence.wide m P a' w' (fun a'' w'' => (∃ x : Past W, w'' = x.now) ∧ wpListIn Fence.wide m P l.toArray (onlyN Q) (l.drop (n + 1)) a'' w'') (onlyN Q)) ((l.take n).drop 1) (a.put o.dst v)) :
    (Code.region id l.toArray true).wpIn Fence.wide m P Q a W :=
  onlyN_sub (wpIn_region_any hm (any_of_float (C := fun w' => ∃ x : Past W, w' = x.now) hB ho hon hgn (fun _ _ _ h => h) hy ⟨⟨_, (Below.refl W.heap.size W).drew⟩, rfl⟩ h))
end
end Go.Proofs.YtbmglemjfodfhaaGreat
namespace Go.Proofs.YtbmglemjfodfhaaGreat
open Go.RowKit
section
variable {m n : Nat} {P : Program} {ops : Array Oper} {md : Region.Mode} {Q : Exit → Act → World → Prop} {Wt : Nat → World}
def reachB (md : Region.Mode) (ops : Array Oper) (i : Nat) : Nat → Nat → Bool
  | 0, _ => false
  | f + 1, j => Region.waitsFor md ops j i || (List.range j).any fun k => decide (i < k) && Region.waitsFor md ops j k && reachB md ops i f k
def Closed (md : Region.Mode) (ops : Array Oper) (L : Array Bool) : Prop := ∀ j oj, ops[j]? = some oj → L.getD j false = true → ∀ e ∈ oj.after, Region.binds md e = true → L.getD e.on false = true
theorem reach_not {L : Array Bool} {i : Nat} (hc : Closed md ops L) (hi : L.getD i false = false) : ∀ f j, reachB md ops i f j = true → L.getD j false = false ∧ j ∉ Region.ready md ops L
  | 0, _, h => by cases h
  | f + 1, j, h => by
    have key : ∃ k, Region.waitsFor md ops j k = true ∧ L.getD k false = false := by
      unfold reachB at h
      rw [Bool.or_eq_true] at h
      rcases h with h | h
      · exact ⟨i, h, hi⟩
      · obtain ⟨k, _, hk⟩ := List.any_eq_true.1 h
        simp only [Bool.and_eq_true] at hk
        exact ⟨k, hk.1.2, (reach_not hc hi f k hk.2).1⟩
    obtain ⟨k, hk, hl⟩ := key
    obtain ⟨oj, hoj, e, he, hb, hon⟩ := Region.waitsFor_spec hk
    constructor
    · cases hj : L.getD j false with
      | false => rfl
      | true =>
        have := hc j oj hoj hj e he hb
        rw [hon, hl] at this
        cases this
    · intro hr
      obtain ⟨_, o, ho, hall⟩ := mem_ready.1 hr
      have := hall e (by rw [← Option.some.inj (hoj.symm.trans ho)]; exact he) hb
      rw [hon, hl] at this
      cases this
theorem Closed.set {L : Array Bool} {i : Nat} (h : Closed md ops L) (hi : i ∈ Region.ready md ops L) : Closed md ops (L.setIfInBounds i true) := by
  obtain ⟨_, oi, hoi, hall⟩ := mem_ready.1 hi
  intro j oj hj hl e he hb
  by_cases hij : i = j
  · subst hij
    have : oj = oi := Option.some.inj (hj.symm.trans hoi)
    subst this
    exact getD_set_true (hall e he hb)
  · rw [getD_set_ne false hij] at hl
    exact getD_set_true (h j oj hj hl e he hb)
structure StInv (md : Region.Mode) (ops : Array Oper) (n : Nat) (L : Array Bool) (t : Nat) : Prop where
  size : L.size = ops.size
  closed : Closed md ops L
  over : ∀ s, n ≤ s → s < n + t → L.getD s false = true
  left : ∀ s, n + t ≤ s → s < ops.size → L.getD s true = false
theorem StInv.head {L : Array Bool} {i t : Nat} (h : StInv md ops n L t) (hi : i ∈ Region.ready md ops L) (hin : i < n) : StInv md ops n (L.setIfInBounds i true) t :=
  ⟨by simp [h.size], h.closed.set hi, fun s h1 h2 => getD_set_true (h.over s h1 h2), fun s h1 h2 => by rw [getD_set_ne true (by omega)]; exact h.left s h1 h2⟩
theorem StInv.at {L : Array Bool} {i t : Nat} (hc : Region.chainB md ops n = true) (h : StInv md ops n L t) (hi : i ∈ Region.ready md ops L) (hin : n ≤ i) : i = n + t := by
  obtain ⟨h0, o, ho, hall⟩ := mem_ready.1 hi
  have hlt : i < ops.size := (Array.getElem?_eq_some_iff.1 ho).1
  rcases Nat.lt_trichotomy i (n + t) with h1 | h1 | h1
  · have h2 := h.over i hin h1
    rw [getD_both h0] at h2
    cases h2
  · exact h1
  · exfalso
    have h1' := List.all_eq_true.1 hc i (List.mem_range.2 hlt)
    simp only [Bool.or_eq_true, decide_eq_true_eq] at h1'
    rcases h1' with h2 | h2
    · omega
    · obtain ⟨o', ho', e, he, hb, hon⟩ := Region.waitsFor_spec h2
      have h3 := hall e (by rw [← Option.some.inj (ho'.symm.trans ho)]; exact he) hb
      rw [hon, getD_both (h.left (i - 1) (by omega) (by omega))] at h3
      cases h3
theorem StInv.next {L : Array Bool} {t : Nat} (h : StInv md ops n L t) (hi : n + t ∈ Region.ready md ops L) : StInv md ops n (L.setIfInBounds (n + t) true) (t + 1) := by
  have hlt : n + t < L.size := by
    obtain ⟨_, o, ho, _⟩ := mem_ready.1 hi
    rw [h.size]; exact (Array.getElem?_eq_some_iff.1 ho).1
  refine ⟨by simp [h.size], h.closed.set hi, fun s h1 h2 => ?_, fun s h1 h2 => by rw [getD_set_ne true (by omega)]; exact h.left s (by omega) h2⟩
  by_cases e : n + t = s
  · subst e; simp [hlt]
  · exact getD_set_true (h.over s h1 (by omega))
def wpAnyT (m : Nat) (P : Program) (md : Region.Mode) (ops : Array Oper) (Q : Exit → Act → World → Prop) (Wt : Nat → World) (n : Nat) : Nat → Array Bool → Nat → Act → Prop
  | 0, L, t, a => Region.ready md ops L = [] ∧ Q .normal a (Wt t)
  | fuel + 1, L, t, a => (Region.ready md ops L = [] → Q .normal a (Wt t)) ∧ ∀ i ∈ Region.ready md ops L,
      wpOpIn Fence.wide m P ops Q i (fun a' w' => w' = Wt (if i < n then t else t + 1) ∧ wpAnyT m P md ops Q Wt n fuel (L.setIfInBounds i true) (if i < n then t else t + 1) a') a (Wt t)
theorem any_of_T : ∀ (fuel : Nat) (L : Array Bool) (t : Nat) (a : Act), wpAnyT m P md ops Q Wt n fuel L t a → wpAnyIn Fence.wide m P md ops Q fuel L a (Wt t)
  | 0, _, _, _, h => h
  | fuel + 1, _, _, _, h => ⟨h.1, fun i hi => wpOpIn_mono (fun a' w' h' => by rw [h'.1]; exact any_of_T fuel _ _ a' h'.2) (h.2 i hi)⟩
def YieldsSt (P : Program) (ops : Array Oper) (Wt : Nat → World) (lim : Nat) (o : Oper) (v : Value) (a : Act) : Prop :=
  (Region.wanted o (yielded ops a.tmps) = true ∧ ∀ t, t ≤ lim → o.quietAt P a (fun w => w = Wt t) (Wt t) v) ∨ (Region.wanted o (yielded ops a.tmps) = false ∧ v = undef)
theorem YieldsSt.of_same {lim : Nat} {o : Oper} {v : Value} {a a' : Act} (hy : YieldsSt P ops Wt lim o v a) (he : execOp a'.eval o = execOp a.eval o)
    (hw : Region.wanted o (yielded ops a'.tmps) = Region.wanted o (yielded ops a.tmps)) : YieldsSt P ops Wt lim o v a' := by
  unfold YieldsSt Oper.quietAt at *
  rw [he, hw]
  exact hy
theorem YieldsSt.op {lim t i : Nat} {o : Oper} {v : Value} {a : Act} {K : Act → World → Prop} (hi : ops[i]? = some o) (hy : YieldsSt P ops Wt lim o v a) (ht : t ≤ lim) (h : K (a.put o.dst v) (Wt t)) : wpOpIn Fence.wide m P ops Q i K a (Wt t) := by
  unfold wpOpIn
  simp only [hi]
  rcases hy with ⟨hw, hv⟩ | ⟨hw, rfl⟩
  · simp only [hw, if_true, Oper.wpIn, Fence.wide_round, Oper.semAt_none]
    refine ⟨fun _ _ => trivial, ?_⟩
    have h3 := hv t ht
    unfold Oper.quietAt at h3
    generalize (execOp a.eval o).run P (Wt t) = x at *
    cases x with
    | ok x w' =>
      cases x <;> simp only [Oper.quietUpon] at h3 <;> simp only [Oper.uponIn]
      case value u => obtain ⟨e1, e2⟩ := h3; rw [e1, e2]; exact h
      case skip => obtain ⟨e1, e2⟩ := h3; rw [e1, ← e2]; exact h
      case enter f args =>
        obtain ⟨e1, hc⟩ := h3
        rw [e1]
        exact ⟨(fun h => (by cases h)), callsIn_wide.2 (hc.mono fun e w'' ⟨he, hw''⟩ => by subst he hw''; exact h)⟩
    | halt x w' => cases h3
  · simp only [hw, Bool.false_eq_true, if_false]; exact ⟨fun _ _ => trivial, h⟩
theorem opIn_putSt {lim j : Nat} {oi oj : Oper} {v : Value} (hj : ops[j]? = some oj) (hap : oi.apart ops oj = true) (hsi : ∀ cs b, oi.op ≠ .select cs b) (hsj : ∀ cs b, oj.op ≠ .select cs b)
    (hQ : ∀ c a w, Q (.panic c) (a.put oi.dst v) w → Q (.panic c) a w) {K : Act → World → Prop} {a : Act} {w : World}
    (hy : YieldsSt P ops Wt lim oi v a) (h : wpOpIn Fence.wide m P ops Q j K (a.put oi.dst v) w) :
    wpOpIn Fence.wide m P ops Q j (fun a' w' => YieldsSt P ops Wt lim oi v a' ∧ K (a'.put oi.dst v) w') a w := by
  obtain ⟨h1, h2, h3⟩ := Oper.apart_spec hap
  have keep : ∀ (a : Act), YieldsSt P ops Wt lim oi v a → ∀ u, YieldsSt P ops Wt lim oi v (a.put oj.dst u) := fun a hy u =>
    hy.of_same (execOp_put oi hsi a oj.dst u h3) (wanted_put oi a oj.dst u h3)
  unfold wpOpIn at *
  simp only [hj] at *
  rw [wanted_put oj a oi.dst v h1] at h
  split
  · rename_i hw
    simp only [hw, if_true, Oper.wpIn, Fence.wide_round, Oper.semAt_none] at h ⊢
    refine ⟨fun _ _ => trivial, ?_⟩
    have h := h.2
    rw [execOp_put oj hsj a oi.dst v h1] at h
    generalize (execOp a.eval oj).run P w = x at *
    cases x with
    | ok x w' =>
      cases x <;> simp only [Oper.uponIn] at h ⊢
      case value u => exact ⟨keep a hy u, by rw [← Act.put_comm a v u h2]; exact h⟩
      case skip => exact ⟨keep a hy _, by rw [← Act.put_comm a v undef h2]; exact h⟩
      case defer d =>
        have hy2 : YieldsSt P ops Wt lim oi v { a with defers := d :: a.defers } := hy.of_same rfl rfl
        refine ⟨keep _ hy2 _, ?_⟩
        rw [← Act.put_comm _ v undef h2, ← Act.put_defers]
        exact h
      case enter f args =>
        refine ⟨h.1, CallsIn.mono h.2 fun e w'' he => ?_⟩
        cases e with
        | returned u => exact ⟨keep a hy u, by rw [← Act.put_comm a v u h2]; exact he⟩
        | panicked c => exact hQ _ _ _ he
        | outgrown => exact he
      case row row args => exact ⟨h.1, RowsIn.mono h.2 fun u w'' he => ⟨keep a hy u, by rw [← Act.put_comm a v u h2]; exact he⟩⟩
      case round =>
        refine ⟨h.1, RoundIn.mono h.2 fun e w'' he => ?_⟩
        cases e with
        | returned u => exact ⟨keep a hy u, by rw [← Act.put_comm a v u h2]; exact he⟩
        | panicked c => exact hQ _ _ _ he
        | outgrown => exact he
    | halt x w' =>
      cases x <;> simp only [Oper.uponIn] at h ⊢
      case panic u => exact hQ _ _ _ h
  · rename_i hw
    simp only [hw] at h
    exact ⟨fun _ _ => trivial, keep a hy _, by rw [← Act.put_comm a v undef h2]; exact h.2⟩
theorem firstT {lim i : Nat} {oi : Oper} {v : Value} (hi : ops[i]? = some oi) (hsel : ∀ (j : Nat) (o : Oper) cs b, ops[j]? = some o → o.op ≠ .select cs b)
    (hc : Region.chainB md ops n = true) (hin : i < n) (hre : reachB md ops i ops.size (n + lim) = true) (hQ : ∀ c a w, Q (.panic c) (a.put oi.dst v) w → Q (.panic c) a w) :
    ∀ (fuel : Nat) (L : Array Bool) (t : Nat) (a : Act), StInv md ops n L t → t ≤ lim →
      (∀ j oj, ops[j]? = some oj → j ≠ i → L.getD j true = false → (∀ e ∈ oj.after, Region.binds md e = true → e.on ≠ i) → oi.apart ops oj = true) →
      i ∈ Region.ready md ops L → YieldsSt P ops Wt lim oi v a →
      wpAnyT m P md ops Q Wt n fuel (L.setIfInBounds i true) t (a.put oi.dst v) → wpAnyT m P md ops Q Wt n (fuel + 1) L t a := by
  intro fuel
  induction fuel with
  | zero =>
    intro L t a inv ht _ hr hy H
    refine ⟨fun h => (by rw [h] at hr; cases hr), fun j hj => ?_⟩
    by_cases hji : j = i
    · subst hji; exact hy.op hi ht (by rw [if_pos hin]; exact ⟨rfl, H⟩)
    · have := ready_mono hj hji
      rw [H.1] at this
      cases this
  | succ fuel ih =>
    intro L t a inv ht hfree hr hy H
    have hun := (mem_ready.1 hr).1
    refine ⟨fun h => (by rw [h] at hr; cases hr), fun j hj => ?_⟩
    by_cases hji : j = i
    · subst hji; exact hy.op hi ht (by rw [if_pos hin]; exact ⟨rfl, H⟩)
    · have h1 := H.2 j (ready_mono hj hji)
      obtain ⟨hjun, oj, hoj, hall⟩ := mem_ready.1 hj
      have hnot : ∀ e ∈ oj.after, Region.binds md e = true → e.on ≠ i := fun e he hb heq => by
        have h1 := hall e he hb
        rw [heq, getD_both hun] at h1
        cases h1
      have h2 := opIn_putSt hoj (hfree j oj hoj hji hjun hnot) (fun cs b => hsel i oi cs b hi) (fun cs b => hsel j oj cs b hoj) hQ hy h1
      have hfree' : ∀ k ok, ops[k]? = some ok → k ≠ i → (L.setIfInBounds j true).getD k true = false →
          (∀ e ∈ ok.after, Region.binds md e = true → e.on ≠ i) → oi.apart ops ok = true := fun k ok hk hki hun hno => by
        refine hfree k ok hk hki ?_ hno
        by_cases hjk : j = k
        · subst hjk; exact hjun
        · rw [getD_set_ne true hjk] at hun; exact hun
      refine wpOpIn_mono (fun a' w' h3 => ⟨h3.2.1, ?_⟩) h2
      have h4 := h3.2.2
      rw [← Array.setIfInBounds_comm _ _ hji] at h4
      by_cases hjn : j < n
      · rw [if_pos hjn] at h4 ⊢
        exact ih _ t a' (inv.head hj hjn) ht hfree' (ready_mono hr (Ne.symm hji)) h3.1 h4
      · rw [if_neg hjn] at h4 ⊢
        have ej := inv.at hc hj (by omega)
        have htl : t + 1 ≤ lim := by
          rcases Nat.lt_or_ge t lim with h5 | h5
          · exact h5
          · exfalso
            have e5 : t = lim := by omega
            subst e5
            exact (reach_not inv.closed (getD_both hun) _ _ hre).2 (ej ▸ hj)
        exact ih _ (t + 1) a' (by rw [ej]; exact inv.next (ej ▸ hj)) htl hfree' (ready_mono hr (Ne.symm hji)) h3.1 h4
def wpTailT (m : Nat) (P : Program) (ops : Array Oper) (Q : Exit → Act → World → Prop) (Wt : Nat → World) : List Oper → Nat → Act → Prop
  | [], t, a => Q .normal a (Wt t)
  | o :: rest, t, a => if Region.wanted o (yielded ops a.tmps) then o.wpIn Fence.wide m P a (Wt t) (fun a' w' => w' = Wt (t + 1) ∧ wpTailT m P ops Q Wt rest (t + 1) a') Q else False
theorem tail_anyT (hk : backB md ops = true) (hc : Region.chainB md ops n = true) : ∀ (l : List Oper) (t : Nat) (L : Array Bool) (a : Act), (∀ j, l[j]? = ops[n + t + j]?) → StInv md ops n L t → (∀ i, i < n → L.getD i false = true) →
    wpTailT m P ops Q Wt l t a → wpAnyT m P md ops Q Wt n l.length L t a
  | [], t, L, a, hl, inv, hh, h => by
    refine ⟨List.eq_nil_iff_forall_not_mem.2 fun i hi => ?_, h⟩
    obtain ⟨h0, o, ho, _⟩ := mem_ready.1 hi
    have hlt : i < ops.size := (Array.getElem?_eq_some_iff.1 ho).1
    have hsz : ops.size ≤ n + t := by
      have := (hl 0).symm
      simpa using this
    have h1 : L.getD i false = true := by
      rcases Nat.lt_or_ge i n with h2 | h2
      · exact hh i h2
      · exact inv.over i h2 (by omega)
    rw [getD_both h0] at h1
    cases h1
  | o :: l, t, L, a, hl, inv, hh, h => by
    have h0 : ops[n + t]? = some o := by simpa using (hl 0).symm
    have hlt : n + t < ops.size := (Array.getElem?_eq_some_iff.1 h0).1
    obtain ⟨hmem, honly⟩ := ready_one (k := n + t) hk hc (by omega) hlt inv.size (fun i hi => by
      rcases Nat.lt_or_ge i n with h2 | h2
      · exact hh i h2
      · exact inv.over i h2 (by omega)) (fun i h1 h2 => inv.left i h1 h2)
    refine ⟨fun h0 => (by rw [h0] at hmem; cases hmem), fun i hi => ?_⟩
    obtain rfl := honly i hi
    unfold wpTailT at h
    split at h
    · rename_i hw
      unfold wpOpIn
      simp only [h0, hw, if_true]
      refine Oper.wpIn_mono (fun a' w' h' => ?_) h
      rw [if_neg (by omega)]
      exact ⟨h'.1, tail_anyT hk hc l (t + 1) _ a' (fun j => by have := hl (j + 1); simpa [Nat.add_assoc, Nat.add_comm 1 j] using this) (inv.next hmem) (fun i hi => getD_set_true (hh i hi)) h'.2⟩
    · exact h.elim
def wpStage (P : Program) (ops : Array Oper) (Wt : Nat → World) (Qa : Act → Prop) : List Nat → List Oper → Act → Prop
  | lim :: ls, o :: rest, a => if Region.wanted o (yielded ops a.tmps) then ∃ v, (∀ t, t ≤ lim → o.quietAt P a (fun w => w = Wt t) (Wt t) v) ∧ wpStage P ops Wt Qa ls rest (a.put o.dst v) else wpStage P ops Wt Qa ls rest (a.put o.dst undef)
  | _, _, a => Qa a
def lexT (md : Region.Mode) (ops : Array Oper) (n : Nat) : List Nat → Nat → Array Bool → Bool
  | [], k, L => decide (k = n) && decide (L = markA' ops.size n)
  | lim :: ls, k, L => decide (k < n) && (Region.ready md ops L).contains k && Region.free md ops L k && reachB md ops k ops.size (n + lim) && lexT md ops n ls (k + 1) (L.setIfInBounds k true)
where markA' (N n : Nat) : Array Bool := ((List.range N).map fun i => decide (i < n)).toArray
theorem lex_anyT (hn : n < ops.size) (hsel : Region.noSelect ops = true) (hk : backB md ops = true) (hc : Region.chainB md ops n = true) (hQ : ∀ d v c a w, Q (.panic c) (Act.put a d v) w → Q (.panic c) a w) :
    ∀ (ls : List Nat) (l : List Oper) (k : Nat) (L : Array Bool) (a : Act), ls.length = l.length → (∀ j, j < l.length → l[j]? = ops[k + j]?) → StInv md ops n L 0 → lexT md ops n ls k L = true →
    wpStage P ops Wt (wpTailT m P ops Q Wt (ops.toList.drop n) 0) ls l a → wpAnyT m P md ops Q Wt n (l.length + (ops.size - n)) L 0 a
  | [], [], k, L, a, _, _, inv, hB, h => by
    simp only [lexT, Bool.and_eq_true, decide_eq_true_eq] at hB
    have h1 := tail_anyT hk hc (ops.toList.drop n) 0 L a (fun j => by simp) inv (fun i hi => by
      have hs := inv.size
      rw [hB.2] at hs ⊢
      have : i < ops.size := by omega
      simp [lexT.markA', this, hi]) h
    simpa using h1
  | [], _ :: _, _, _, _, hl, _, _, _, _ => by cases hl
  | _ :: _, [], _, _, _, hl, _, _, _, _ => by cases hl
  | lim :: ls, o :: l, k, L, a, hlen, hl, inv, hB, h => by
    have h0 : ops[k]? = some o := by simpa using (hl 0 (by simp)).symm
    simp only [lexT, Bool.and_eq_true, decide_eq_true_eq] at hB
    obtain ⟨⟨⟨⟨hkn, hr⟩, hf⟩, hre⟩, hB'⟩ := hB
    have hr' : k ∈ Region.ready md ops L := by simpa using hr
    have step : ∀ v, YieldsSt P ops Wt lim o v a → wpStage P ops Wt (wpTailT m P ops Q Wt (ops.toList.drop n) 0) ls l (a.put o.dst v) → wpAnyT m P md ops Q Wt n ((o :: l).length + (ops.size - n)) L 0 a := by
      intro v hy hs
      have ih := lex_anyT hn hsel hk hc hQ ls l (k + 1) (L.setIfInBounds k true) (a.put o.dst v) (by simpa using hlen) (fun j hj => by have := hl (j + 1) (by simp; omega); simpa [Nat.add_assoc, Nat.add_comm 1 j] using this) (inv.head hr' hkn) hB' hs
      rw [show (o :: l).length + (ops.size - n) = (l.length + (ops.size - n)) + 1 by simp; omega]
      exact firstT h0 (Region.noSelect_spec hsel) hc hkn hre (hQ o.dst v) _ L 0 a inv (Nat.zero_le _) (Region.free_spec h0 hf) hr' hy ih
    unfold wpStage at h
    split at h
    · rename_i hw
      obtain ⟨v, hv, hs⟩ := h
      exact step v (.inl ⟨hw, hv⟩) hs
    · rename_i hw
      exact step undef (.inr ⟨by simpa using hw, rfl⟩) h
def stageB (ops : Array Oper) (n : Nat) (ls : List Nat) : Bool :=
  Region.noSelect ops && decide (n < ops.size) && Region.chainB .any ops n && backB .any ops && deferB ops && decide (ls.length = n) && lexT .any ops n ls 0 (Array.replicate ops.size false)
theorem any_of_stage {l : List Oper} {ls : List Nat} {a : Act} {w : World} (hB : stageB l.toArray n ls = true) (hQ : ∀ d v c a w, Q (.panic c) (Act.put a d v) w → Q (.panic c) a w) (hw : Wt 0 = w)
    (h : wpStage P l.toArray Wt (wpTailT m P l.toArray Q Wt (l.drop n) 0) ls (l.take n) a) : wpAnyIn Fence.wide m P .any l.toArray Q l.toArray.size (Array.replicate l.toArray.size false) a w := by
  simp only [stageB, Bool.and_eq_true, decide_eq_true_eq] at hB
  obtain ⟨⟨⟨⟨⟨⟨hsel, hn⟩, hc⟩, hk⟩, _⟩, hlen⟩, hlex⟩ := hB
  have hn' : n < l.length := by simpa using hn
  have h1 := lex_anyT (m := m) (md := .any) (Q := Q) (Wt := Wt) hn hsel hk hc hQ ls (l.take n) 0 (Array.replicate l.toArray.size false) a (by simp; omega) (fun j hj => by
    have hj' : j < n := by simp at hj; omega
    simp [hj'])
    ⟨by simp, fun j oj _ hl => (by rw [getD_replicate_false] at hl; cases hl), fun s h1 h2 => by omega, fun t _ ht => getD_in (by simpa using ht) (getD_replicate_false _ _)⟩ hlex (by simpa using h)
  rw [show (l.take n).length + (l.toArray.size - n) = l.toArray.size by simp; omega] at h1
  rw [← hw]
  exact any_of_T _ _ _ _ h1
theorem regionIn_stage {id : Nat} {a : Act} {w : World} {l : List Oper} (n : Nat) (ls : List Nat) (Wt : Nat → World) (hm : P.follows .mixedOrders = true) (hB : stageB l.toArray n ls = true) (hw : Wt 0 = w.drew)
    (h : wpStage P l.toArray Wt (wpTailT m P l.toArray (onlyN Q) Wt (l.drop n) 0) ls (l.take n) a) : (Code.region id l.toArray true).wpIn Fence.wide m P Q a w :=
  onlyN_sub (wpIn_region_any hm (any_of_stage hB (fun _ _ _ _ _ h => h) hw h))
theorem stage_step {lim : Nat} {ls : List Nat} {o : Oper} {rest : List Oper} {a : Act} {Qa : Act → Prop} (v : Value) (hg : o.guard = none) (hv : ∀ t, t ≤ lim → o.quietAt P a (fun w => w = Wt t) (Wt t) v) (h : wpStage P ops Wt Qa ls rest (a.put o.dst v)) :
    wpStage P ops Wt Qa (lim :: ls) (o :: rest) a := by
  unfold wpStage
  rw [if_pos (by simp [Region.wanted, hg])]
  exact ⟨v, hv, h⟩
theorem tail_step {o : Oper} {rest : List Oper} {t : Nat} {a : Act} (hg : o.guard = none) (h : o.wpIn Fence.wide m P a (Wt t) (fun a' w' => w' = Wt (t + 1) ∧ wpTailT m P ops Q Wt rest (t + 1) a') Q) : wpTailT m P ops Q Wt (o :: rest) t a := by
  unfold wpTailT
  rw [if_pos (by simp [Region.wanted, hg])]
  exact h
end
end Go.Proofs.YtbmglemjfodfhaaGreat
