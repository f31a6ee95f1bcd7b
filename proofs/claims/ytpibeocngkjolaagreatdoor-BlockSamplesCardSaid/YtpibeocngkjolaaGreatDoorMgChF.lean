/- coeff.table; coeff.short. | coeff.Put, coeff.Short. | The document's code of a pair, Short, Put. | The document's Put. -/
import Derived.Test.YtpibeocngkjolaaGreatDoorMgCfE
import Derived.Test.YtpibeocngkjolaaGreatDoorMgCfU
import Derived.Test.YtpibeocngkjolaaGreatDoorMgChD
import Derived.BigFrameIn
set_option linter.unusedVariables false
set_option linter.unusedSimpArgs false

namespace Go.Proofs.YtpibeocngkjolaaGreatDoor
open Go.RowKit Go.Shelf
attribute [local go_sem] Oper.semAt_some
set_option linter.unusedSimpArgs false
set_option linter.unusedVariables false
namespace Cf
section
set_option maxRecDepth 100000
set_option maxHeartbeats 4000000
set_option linter.unusedVariables false
theorem table_any (first : Bool) (w : World) : Calls Tryz.prog 89 #[.bool first] w fun e w' => e = .returned (.func (.func 109) #[] #[.pointer (some ⟨w.heap.size, 0, none⟩)]) ∧ w' = w.alloc (.cells #[.bool first] 4) := by
  go_enter Tryz.func89, Tryz.ntmps89
  go_wp2_with fail
  go_ret
  exact ⟨rfl, rfl⟩
theorem tab_seq (first : Bool) (mm : Nat) (hm : 1 ≤ mm) (Bl : Nat) (w : World) (hB : Bl < w.heap.size) (hb : Boxed w Bl 4 (.bool first)) (hT : Tabs w) :
    SeqN mm Tryz.prog 109 #[.pointer (some ⟨Bl, 0, none⟩)] encT (KpT Bl) (fun ys => ys = tab first) (fun pre => pre <+: tab first) (tab first).length w := by
  intro l J Jx W hW hl hlW hJ hJx hY h0
  exact table1_in first mm hm l Bl (by omega) J Jx W hlW (Nat.lt_of_lt_of_le hB hW.size) (fun pre A C h hg => hJ pre A C none h hg (fun r e => by cases e)) hY h0 (hb.kept (grown_of_below hW none) (by simp)) (hT.below hW)
theorem obj_own {β : Type} (B : Nat) (o : Obj) (hc : o.isCells = true) : Own (fun (_ : β) W => W.heap[B]? = some o) := fun _ X _ _ hs hg hrow => by
  refine (hg.block B (Array.getElem?_eq_some_iff.1 hs).1 (fun e => ?_)).trans hs
  obtain ⟨o', ho, hcc⟩ := hrow B e.symm
  rw [hs] at ho
  cases ho
  rw [hc] at hcc
  cases hcc
theorem grown_cell (V : World) (b i : Nat) (v : Value) : V.grownBy (V.setCell ⟨b, i, none⟩ v) (some b) := grown_set (World.grownBy.refl V _) i v
theorem results_str {fn : Func} {p : Tmp} (hr : fn.results = #[.cell p 9]) (tmps : Array Value) {w : World} {B : Nat} {x : List UInt8}
    (hp : tmps.getD p undef = .pointer (some ⟨B, 0, none⟩)) (h : Boxed w B 9 (sv x)) : (results fn tmps).run Tryz.prog w = .ok (sv x) w := by
  have c2 := h.cell
  have hp' : tmps[p]?.getD undef = .pointer (some ⟨B, 0, none⟩) := by simpa using hp
  unfold sv at *
  simp [results, hr, hp', asAddr, loadVar, go_sem, c2, Tryz.underlying9]
/-- does the entry tell of the pair? -/
def isE (r l : Int) (e : Ent) : Bool := decide ((e.run : Int) = r) && (decide ((e.lvl : Int) = l) || decide ((e.lvl : Int) = wrap64 (-l)))
def shortX (xs : List Ent) (r l : Int) : List UInt8 := match xs.find? (isE r l) with | some e => cs e.code | none => []
def shortL (first : Bool) (r l : Int) : List UInt8 := shortX (tab first) r l
theorem shortX_none {xs : List Ent} {r l : Int} (h : ∀ x ∈ xs, isE r l x = false) : shortX xs r l = [] := by
  have e : xs.find? (isE r l) = none := List.find?_eq_none.2 (fun y hy => by rw [h y hy]; exact Bool.false_ne_true)
  unfold shortX
  rw [e]
structure SH (w : World) (r l : Int) (v : List UInt8) (V : World) : Prop where
  p : V.heap[w.heap.size]? = some (.cells #[.int .i64 r, .int .i64 l] 69 (0, 0))
  o : Boxed V (w.heap.size + 1) 9 (sv v)
  bel : Below w.heap.size w V
theorem sh_own {β : Type} {w : World} {r l : Int} {v : List UInt8} : OwnFrom w.heap.size (fun (_ : β) V => SH w r l v V) := fun s X Y row hs hg hr =>
  ⟨Own.from (obj_own (β := β) _ _ rfl) _ s X Y row hs.p hg hr, Own.from (boxed_own _ _ (fun _ : β => _)) _ s X Y row hs.o hg hr, ownFrom_below (Nat.le_refl _) (Nat.le_refl _) s X Y row hs.bel hg hr⟩
theorem find_pre {α : Type} {m : α → Bool} {pre xs : List α} {x : α} (h : pre <+: xs) (hf : pre.find? m = some x) : xs.find? m = some x := by
  obtain ⟨t, rfl⟩ := h
  rw [List.find?_append, hf]
  rfl
theorem kpT_below {B l : Nat} {V V' : World} (h : Below V.heap.size V V') : KpT B l V V' := ⟨h.size, fun i _ _ o ho _ => (h.block i (Array.getElem?_eq_some_iff.1 ho).1).trans ho, fun t => t.below h⟩
theorem SH.below {w : World} {r l : Int} {v : List UInt8} {V V' : World} (h : SH w r l v V) (hb : Below V.heap.size V V') : SH w r l v V' :=
  ⟨(hb.block _ (Array.getElem?_eq_some_iff.1 h.p).1).trans h.p, h.o.kept (grown_of_below hb none) (by simp), chain h.bel hb⟩
theorem short_any (r l : Int) (first : Bool) (w : World) (hT : Tabs w) : Calls Tryz.prog 70 #[prV r l, .bool first] w fun e w' => e = .returned (sv (shortL first r l)) ∧ Below w.heap.size w w' := by
  have HT := Lib.hid hT
  have S0 : SH w r l [] (((w.alloc (.cells #[.int .i64 r, .int .i64 l] 69)).alloc (.cells #[.string ⟨#[]⟩] 9)).alloc (.cells #[.bool first] 4)) := by
    refine ⟨?_, ?_, (((Below.refl w.heap.size w).alloc (Nat.le_refl _) _).alloc (by simp) _).alloc (by simp; omega) _⟩
    · have h1 := heap_alloc_new w (.cells #[.int .i64 r, .int .i64 l] 69)
      have l1 := (Array.getElem?_eq_some_iff.1 h1).1
      exact (Below.heap_alloc _ _ _ (by rw [World.size_alloc]; exact Nat.lt_succ_of_lt l1)).trans ((Below.heap_alloc _ _ _ l1).trans h1)
    · have h2 := Boxed.new (w.alloc (.cells #[.int .i64 r, .int .i64 l] 69)) 9 (.string ⟨#[]⟩)
      rw [World.size_alloc] at h2
      exact h2.alloc _
  have F0 : Boxed (((w.alloc (.cells #[.int .i64 r, .int .i64 l] 69)).alloc (.cells #[.string ⟨#[]⟩] 9)).alloc (.cells #[.bool first] 4)) (w.heap.size + 1 + 1) 4 (.bool first) := by
    have h2 := Boxed.new ((w.alloc (.cells #[.int .i64 r, .int .i64 l] 69)).alloc (.cells #[.string ⟨#[]⟩] 9)) 4 (.bool first)
    rw [World.size_alloc, World.size_alloc] at h2
    exact h2
  refine (callsIn_wide (n := 12)).1 ?_
  refine callsIn_of_wp_marks Tryz.func70 rfl trivial ?_ rfl
  simp only [Tryz.ntmps70, List.size_toArray, List.length_cons, List.length_nil, Nat.reduceAdd, Nat.reduceSub, Array.replicate_succ, Array.replicate_zero, List.push_toArray, List.append_toArray, List.nil_append, List.cons_append]
  unfold prV
  gi_wp2_with (refine ⟨trivial, ?_⟩; gi_at_call 89; refine (callsIn_wide.2 (table_any first _)).mono ?_; rintro e w' ⟨rfl, rfl⟩)
  obtain ⟨W0, hW0⟩ : ∃ W0, (((w.alloc (.cells #[.int .i64 r, .int .i64 l] 69)).alloc (.cells #[.string ⟨#[]⟩] 9)).alloc (.cells #[.bool first] 4)) = W0 := ⟨_, rfl⟩
  rw [hW0] at S0 F0
  rw [hW0]
  clear hW0
  have b0 := S0.bel.size
  have f0 := F0.lt
  refine rangeN (gf := 109) (lb := #[.pointer (some ⟨w.heap.size + 1 + 1, 0, none⟩)]) rfl (enters_of Tryz.func109 (by kernel_rfl) rfl)
    (tab_seq first 11 (by decide) (w.heap.size + 1 + 1) W0 f0 F0 (HT.out.below S0.bel)) kpT_t kpT_l (fun _ => rfl)
    (fun pre V => (∀ x ∈ pre, isE r l x = false) ∧ SH w r l [] V)
    (fun c pre V => c = .ret ∧ ∃ x, pre.find? (isE r l) = some x ∧ SH w r l (cs x.code) V)
    (OwnFrom.and (fun _ _ _ _ h _ _ => h) (fun s A C row h hg hr => sh_own (β := Unit) () A C row h hg (fun r e => by have := hr r e; exact ⟨by omega, this.2⟩)))
    (fun c => fun s A C row ⟨h1, x, h2, h3⟩ hg hr => ⟨h1, x, h2, sh_own (β := Unit) () A C row h3 hg (fun r e => by have := hr r e; exact ⟨by omega, this.2⟩)⟩)
    ⟨fun _ h => (by cases h), S0⟩
    (fun x a' V => ∃ q, V.heap[q]? = some (.cells #[.int .i64 x.run, .int .i64 x.lvl] 69 (0, 0)) ∧ a' = { tmps := #[.agg #[.int .i64 r, .int .i64 l], .bool first, .pointer (some ⟨w.heap.size, 0, none⟩), undef, .pointer (some ⟨w.heap.size + 1, 0, none⟩), .pointer (some ⟨q, 0, none⟩), sv (cs x.code), .bool first, .func (.func 109) #[] #[.pointer (some ⟨w.heap.size + 1 + 1, 0, none⟩)], .agg #[.int .i64 x.run, .int .i64 x.lvl], sv (cs x.code), undef, undef, undef, undef, undef, undef, undef, undef, undef, undef, undef, undef, undef, undef, undef, undef, undef, undef, undef, undef, undef], defers := [] })
    (fun x a' => fun s A C row ⟨q, h1, h2⟩ hg hr => ⟨q, Own.from (obj_own (β := Unit) q (.cells #[.int .i64 x.run, .int .i64 x.lvl] 69 (0, 0)) rfl) _ () A C row h1 hg hr, h2⟩)
    ?assign ?body ?done ?stop
  case assign =>
    rintro l pre x V K sV hl ⟨h, h0⟩ hK
    dsimp only [encT] at *
    gi_wp2
    have hb : Below V.heap.size V (V.alloc (.cells #[.int .i64 x.run, .int .i64 x.lvl] 69)) := (Below.refl _ V).alloc (Nat.le_refl _) _
    exact hK _ _ ((KeepsOthers.alloc _ _).from _) (kpT_below hb) ⟨h, h0.below hb⟩ ⟨V.heap.size, heap_alloc_new V _, rfl⟩
  case body =>
    rintro l2 pre x a' V hl ⟨r2, hr2⟩ ⟨hne, h0⟩ ⟨q, hq, rfl⟩ hlt
    obtain ⟨X, hX⟩ : ∃ X : Int, (x.run : Int) = X := ⟨_, rfl⟩
    obtain ⟨Y, hY⟩ : ∃ X : Int, (x.lvl : Int) = X := ⟨_, rfl⟩
    have hiv : isE r l x = (decide (X = r) && (decide (Y = l) || decide (Y = wrap64 (-l)))) := by unfold isE; rw [hX, hY]
    rw [hX, hY] at hq
    simp only [hX, hY]
    have q0 : V.cell? ⟨q, 0, none⟩ = some (.int .i64 X) := by simp [World.cell?, hq]
    have q1 : V.cell? ⟨q, 1, none⟩ = some (.int .i64 Y) := by simp [World.cell?, hq]
    have p0 : V.cell? ⟨w.heap.size, 0, none⟩ = some (.int .i64 r) := by simp [World.cell?, h0.p]
    have p1 : V.cell? ⟨w.heap.size, 1, none⟩ = some (.int .i64 l) := by simp [World.cell?, h0.p]
    have o0 := h0.o.cell
    have o1 := h0.o.frozen
    have H0 := Lib.hid h0
    have HV := Lib.hid hiv
    have HN := Lib.hid hne
    clear hne h0 hq hr2 hiv hX hY hlt S0 F0 hT
    have fin1 : isE r l x = false → KeepsFrom W0.heap.size V V ∧ KpT (w.heap.size + 1 + 1) l2 V V ∧ ((∀ y ∈ pre ++ [x], isE r l y = false) ∧ SH w r l [] V) := fun e => ⟨KeepsFrom.refl _ _, kpT_refl V, fun y hy => by
        rcases List.mem_append.1 hy with h | h
        · exact HN.out y h
        · rw [List.mem_singleton.1 h]; exact e, H0.out⟩
    have fin2 : isE r l x = true → KeepsFrom W0.heap.size V (V.setCell ⟨w.heap.size + 1, 0, none⟩ (sv (cs x.code))) ∧ KpT (w.heap.size + 1 + 1) l2 V (V.setCell ⟨w.heap.size + 1, 0, none⟩ (sv (cs x.code))) ∧ (Code.ret = Code.ret ∧ ∃ z, (pre ++ [x]).find? (isE r l) = some z ∧ SH w r l (cs z.code) (V.setCell ⟨w.heap.size + 1, 0, none⟩ (sv (cs x.code)))) := fun e => by
      have g := grown_cell V (w.heap.size + 1) 0 (sv (cs x.code))
      have b := H0.out.bel.setCell (p := ⟨w.heap.size + 1, 0, none⟩) (by simp) (sv (cs x.code))
      refine ⟨(KeepsOthers.setCell V _ _).from _, ⟨by simp, fun i hi _ o ho _ => (g.block i (Array.getElem?_eq_some_iff.1 ho).1 (fun e => by have := Option.some.inj e; omega)).trans ho, fun _ => HT.out.below b⟩, rfl, x, ?_, ?_⟩
      · rw [List.find?_append, List.find?_eq_none.2 (fun y hy => by rw [HN.out y hy]; simp)]
        simp [e]
      · exact ⟨(g.block _ (Array.getElem?_eq_some_iff.1 H0.out.p).1 (fun e => by have := Option.some.inj e; omega)).trans H0.out.p, H0.out.o.set _, b⟩
    obtain ⟨S, hS⟩ : ∃ S : ByteArray, sv (cs x.code) = .string S := ⟨_, rfl⟩
    have o2 : V.cell? ⟨w.heap.size + 1, 0, none⟩ = some (.string ⟨#[]⟩) := o0
    simp only [hS] at fin2
    rw [hS]
    clear hS o0
    have F1 := Lib.hid fin1
    have F2 := Lib.hid fin2
    clear fin1 fin2
    obtain ⟨m, hm⟩ : ∃ m, wrap64 (-l) = m := ⟨_, rfl⟩
    rw [hm] at HV
    by_cases e1 : X = r
    · subst e1
      by_cases e2 : Y = l
      · subst e2
        have G := Lib.hid (F2.out (by rw [HV.out]; simp))
        clear F1 F2 HN HV HT b0 f0 hl
        gi_wp2
        exact ⟨G.out.1, G.out.2.1, rfl, G.out.2.2.2⟩
      · have t2 : (Y == l) = false := by simp [e2]
        by_cases e3 : Y = m
        · have t3 : (Y == m) = true := by simp [e3]
          have G := Lib.hid (F2.out (by rw [HV.out]; simp [e3]))
          clear F1 F2 HN HV HT b0 f0 hl
          gi_wp2
          exact ⟨G.out.1, G.out.2.1, rfl, G.out.2.2.2⟩
        · have t3 : (Y == m) = false := by simp [e3]
          have G := Lib.hid (F1.out (by rw [HV.out]; simp [e2, e3]))
          clear F1 F2 HN HV HT b0 f0 hl
          gi_wp2
          exact ⟨G.out.1, G.out.2.1, G.out.2.2⟩
    · have t1 : (X == r) = false := by simp [e1]
      have G := Lib.hid (F1.out (by rw [HV.out]; simp [e1]))
      clear F1 F2 HN HV HT b0 f0 hl
      gi_wp2
      exact ⟨G.out.1, G.out.2.1, G.out.2.2⟩
  case stop =>
    rintro Dd c pre V hD hSp ⟨rfl, x, hf, h0⟩ hK
    have hsx : shortL first r l = cs x.code := by unfold shortL shortX; rw [find_pre hSp hf]
    have HX := Lib.hid hsx
    have hc : Dd ≠ w.heap.size + 1 := by omega
    clear hsx hf hSp HT hT S0 F0
    gi_wp2
    refine ⟨by simp, .inl ⟨_, _, rfl, run_takeDeferred hK, ?_⟩⟩
    have hg := grownBy_putObj' V Dd (.deferred none)
    exact ⟨_, results_str rfl _ rfl (h0.o.kept hg (fun e => hc (Option.some.inj e).symm)), by rw [HX.out], h0.bel.grown hg h0.bel.size (fun g hg => by cases hg; omega)⟩
  case done =>
    rintro Dd ys V hD hys ⟨hne, h0⟩ hK
    have hys2 : ys = tab first := hys
    have hsx : shortL first r l = [] := by
      unfold shortL
      rw [← hys2]
      exact shortX_none hne
    clear hys hys2
    have HX := Lib.hid hsx
    have hc : Dd ≠ w.heap.size + 1 := by omega
    have o0 : V.cell? ⟨w.heap.size + 1, 0, none⟩ = some (.string ⟨#[]⟩) := h0.o.cell
    have o1 := h0.o.frozen
    have H0 := Lib.hid h0
    have HK := Lib.hid hK
    clear h0 hK hne hsx HT hT S0 F0
    gi_wp2
    have b := H0.out.bel.setCell (p := ⟨w.heap.size + 1, 0, none⟩) (by simp) (sv [])
    have hb := H0.out.o.set (sv [])
    have hK2 := (KeepsOthers.setCell V ⟨w.heap.size + 1, 0, none⟩ (sv [])).same Dd _ HK.out rfl
    refine ⟨by simp, .inl ⟨_, _, rfl, run_takeDeferred hK2, ?_⟩⟩
    have hg := grownBy_putObj' (V.setCell ⟨w.heap.size + 1, 0, none⟩ (sv [])) Dd (.deferred none)
    exact ⟨_, results_str rfl _ rfl (hb.kept hg (fun e => hc (Option.some.inj e).symm)), by rw [HX.out], b.grown hg b.size (fun g hg => by cases hg; omega)⟩
end
end Cf
end Go.Proofs.YtpibeocngkjolaaGreatDoor

namespace Go.Proofs.YtpibeocngkjolaaGreatDoor
open Go.RowKit
set_option linter.unusedSimpArgs false
set_option linter.unusedVariables false
namespace Cf
section
set_option maxRecDepth 100000
set_option maxHeartbeats 4000000
set_option linter.unusedVariables false
theorem tab_codes : ∀ first, ∀ e ∈ tab first, e.code.length ≤ 13 ∧ 1 ≤ e.code.length ∧ 1 ≤ e.lvl ∧ e.lvl ≤ 15 ∧ e.run ≤ 26 := by decide +kernel
theorem shortL_len (first : Bool) (r l : Int) : (shortL first r l).length ≤ 13 := by
  have h := tab_codes first
  unfold shortL
  generalize tab first = T at h ⊢
  unfold shortX
  cases hf : T.find? (isE r l) with
  | none => simp
  | some e =>
    have := h e (List.mem_of_find?_eq_some hf)
    simp [cs]
    omega
def putL (first : Bool) (r l : Int) : List UInt8 := if shortL first r l = [] then cs (escL r l) else shortL first r l ++ [if l < 0 then 49 else 48]
theorem Put_any (r l : Int) (first : Bool) (w : World) (hT : Tabs w) :
    Calls Tryz.prog 44 #[prV r l, .bool first] w fun e w' => e = .returned (.tuple #[if pairB r l then sv (putL first r l) else sv [], .int .i64 (if pairB r l then 0 else 3)]) ∧ Below w.heap.size w w' := by
  have HP := Lib.hid (fun W => pair_any r l W)
  have HS := Lib.hid (fun W h => short_any r l first W h)
  have HE := Lib.hid (fun W h => Escape_any r l W h)
  have P0 := Lib.hid (PK.new r l hT)
  have hn := shortL_len first r l
  unfold putL
  generalize shortL first r l = x at HS hn ⊢
  unfold prV at *
  clear hT
  by_cases hp : pairB r l
  · rw [if_pos hp] at HE
    rw [if_pos hp] at HE ⊢
    rw [if_pos hp]
    rw [hp] at HP
    by_cases hx : x = []
    · subst hx
      rw [if_pos rfl]
      clear hp hn
      unfold sv at HS HE ⊢
      go_enter Tryz.func44, Tryz.ntmps44
      go_wp2_with (first
        | (go_at_call 69; refine (HP.out _).mono ?_; rintro e w1 ⟨rfl, hB⟩; have P1 := Lib.hid (P0.out.below hB); have k0 := P1.out.c0; have k1 := P1.out.c1; clear hB)
        | (go_at_call 70; refine (HS.out _ P1.out.t).mono ?_; rintro e w2 ⟨rfl, hB⟩; have P2 := Lib.hid (P1.out.below hB); have k0 := P2.out.c0; have k1 := P2.out.c1; clear hB)
        | (go_at_call 71; refine (HE.out _ P2.out.t).mono ?_; rintro e w3 ⟨rfl, hB⟩; have P3 := Lib.hid (P2.out.below hB); clear hB))
      go_ret2
      exact ⟨rfl, P3.out.bel⟩
    · rw [if_neg hx]
      have he : (⟨x.toArray⟩ : ByteArray).toList.isEmpty = false := by rw [ByteArray.toList_mk]; cases x with | nil => exact absurd rfl hx | cons _ _ => rfl
      have hz := ba_size x
      have HC0 := Lib.hid (show (⟨x.toArray⟩ : ByteArray) ++ ⟨#[48]⟩ = ⟨(x ++ [48]).toArray⟩ by apply ByteArray.ext; simp)
      have HC1 := Lib.hid (show (⟨x.toArray⟩ : ByteArray) ++ ⟨#[49]⟩ = ⟨(x ++ [49]).toArray⟩ by apply ByteArray.ext; simp)
      unfold sv at HS HE ⊢
      obtain ⟨S, hS⟩ : ∃ S : ByteArray, (⟨x.toArray⟩ : ByteArray) = S := ⟨_, rfl⟩
      rw [hS] at HS he hz HC0 HC1
      have hz2 : S.size ≤ 13 := by omega
      clear hp hn hx hS hz
      by_cases h0 : l < 0
      · rw [if_pos h0]
        go_enter Tryz.func44, Tryz.ntmps44
        go_wp2_with (first
          | (go_at_call 69; refine (HP.out _).mono ?_; rintro e w1 ⟨rfl, hB⟩; have P1 := Lib.hid (P0.out.below hB); have k0 := P1.out.c0; have k1 := P1.out.c1; clear hB)
          | (go_at_call 70; refine (HS.out _ P1.out.t).mono ?_; rintro e w2 ⟨rfl, hB⟩; have P2 := Lib.hid (P1.out.below hB); have k0 := P2.out.c0; have k1 := P2.out.c1; clear hB))
        go_ret2
        exact ⟨by rw [← HC1.out]; rfl, P2.out.bel⟩
      · rw [if_neg h0]
        go_enter Tryz.func44, Tryz.ntmps44
        go_wp2_with (first
          | (go_at_call 69; refine (HP.out _).mono ?_; rintro e w1 ⟨rfl, hB⟩; have P1 := Lib.hid (P0.out.below hB); have k0 := P1.out.c0; have k1 := P1.out.c1; clear hB)
          | (go_at_call 70; refine (HS.out _ P1.out.t).mono ?_; rintro e w2 ⟨rfl, hB⟩; have P2 := Lib.hid (P1.out.below hB); have k0 := P2.out.c0; have k1 := P2.out.c1; clear hB))
        go_ret2
        exact ⟨by rw [← HC0.out]; rfl, P2.out.bel⟩
  · rw [if_neg hp, if_neg hp]
    rw [Bool.eq_false_iff.2 hp] at HP
    clear hp hn
    unfold sv at *
    go_enter Tryz.func44, Tryz.ntmps44
    go_wp2_with (go_at_call 69; refine (HP.out _).mono ?_; rintro e w1 ⟨rfl, hB⟩; have P1 := Lib.hid (P0.out.below hB); clear hB)
    go_ret2
    exact ⟨rfl, P1.out.bel⟩
end
end Cf
end Go.Proofs.YtpibeocngkjolaaGreatDoor

namespace Go.Proofs.YtpibeocngkjolaaGreatDoor
open Go.RowKit
set_option linter.unusedSimpArgs false
set_option linter.unusedVariables false
namespace Cf
section
set_option maxRecDepth 100000
set_option maxHeartbeats 4000000
set_option linter.unusedVariables false
theorem Two.cells {B : Nat} {W : World} {g1 c1 g2 c2 : Nat} (h : Two B W (.slice (some ⟨g1, 0, none⟩) 63 c1) (.slice (some ⟨g2, 0, none⟩) 63 c2) (tab false)) {k : Nat} (hk : k < 63) :
    W.cell? ⟨g1, k * 2, none⟩ = some (.int .i64 ((tab false).getD k ⟨0, 0, []⟩).run) ∧ W.cell? ⟨g1, k * 2 + 1, none⟩ = some (.int .i64 ((tab false).getD k ⟨0, 0, []⟩).lvl) ∧ W.cell? ⟨g2, k, none⟩ = some (sv (cs ((tab false).getD k ⟨0, 0, []⟩).code)) := by
  have hl := tab_len false
  have hp := h.p
  have hc := h.c
  rw [hl] at hp hc
  have hk2 : k < (tab false).length := by omega
  have e : (tab false).getD k ⟨0, 0, []⟩ = (tab false)[k] := by rw [List.getD_eq_getElem?_getD, List.getElem?_eq_getElem hk2]; rfl
  have h1 := pairC_get (tab false) k hk2
  have h2 := codeC_get (tab false) k hk2
  rw [e]
  exact ⟨by rw [hp.cellAt _ (by omega), Nat.mul_comm]; exact h1.1, by rw [hp.cellAt _ (by omega), Nat.mul_comm]; exact h1.2, by rw [hc.cellAt _ (by omega)]; exact h2⟩
theorem find_at {xs : List Ent} {m : Ent → Bool} {k : Nat} (hk : k < xs.length) (hn : ∀ j, j < k → m (xs.getD j ⟨0, 0, []⟩) = false) (hm : m (xs.getD k ⟨0, 0, []⟩) = true) : xs.find? m = some (xs.getD k ⟨0, 0, []⟩) := by
  have hg : xs.getD k ⟨0, 0, []⟩ = xs[k] := by rw [List.getD_eq_getElem?_getD, List.getElem?_eq_getElem hk]; rfl
  rw [List.find?_eq_some_iff_getElem]
  refine ⟨hm, k, hk, hg.symm, fun j hj => ?_⟩
  have := hn j hj
  rw [List.getD_eq_getElem?_getD, List.getElem?_eq_getElem (by omega)] at this
  simpa using this
theorem find_no {xs : List Ent} {m : Ent → Bool} (hn : ∀ j, j < xs.length → m (xs.getD j ⟨0, 0, []⟩) = false) : xs.find? m = none := by
  rw [List.find?_eq_none]
  intro x hx
  obtain ⟨j, hj, rfl⟩ := List.mem_iff_getElem.1 hx
  have := hn j hj
  rw [List.getD_eq_getElem?_getD, List.getElem?_eq_getElem hj] at this
  simpa using this
theorem wrap64_i64 (x : Int) : IntKind.i64.wrap x = wrap64 x := by
  have e1 : ((2 : Int) ^ IntKind.i64.bits) = 18446744073709551616 := rfl
  have e2 : ((2 : Int) ^ (IntKind.i64.bits - 1)) = 9223372036854775808 := rfl
  have e3 : IntKind.i64.signed = true := rfl
  unfold wrap64
  simp only [IntKind.wrap, e1, e2, e3, Bool.true_and, decide_eq_true_eq]
  split <;> omega
theorem rcode_any (r l : Int) (w : World) : Calls Tryz.prog 73 #[prV r l] w fun e w' => e = .returned (sv (shortL false r l)) ∧ Below w.heap.size w w' := by
  have HC := Lib.hid (fun W => Coded_any W)
  have hn := heap_alloc_new w (.cells #[.int .i64 r, .int .i64 l] 69)
  have B0 := Lib.hid ((Below.refl w.heap.size w).alloc (Nat.le_refl _) (.cells #[.int .i64 r, .int .i64 l] 69))
  have P0 : Hid ((w.alloc (.cells #[.int .i64 r, .int .i64 l] 69)).cell? ⟨w.heap.size, 0, none⟩ = some (.int .i64 r) ∧ (w.alloc (.cells #[.int .i64 r, .int .i64 l] 69)).cell? ⟨w.heap.size, 1, none⟩ = some (.int .i64 l)) := Lib.hid ⟨by rw [cell_of_row _ _ 0 _ _ (0, 0) hn]; rfl, by rw [cell_of_row _ _ 1 _ _ (0, 0) hn]; rfl⟩
  have HL := Lib.hid (World.size_alloc w (.cells #[.int .i64 r, .int .i64 l] 69))
  clear hn
  unfold prV
  go_enter Tryz.func73, Tryz.ntmps73
  go_wp2_with (go_at_call 67; refine (HC.out _).mono ?_; rintro e w1 ⟨g1, c1, g2, c2, rfl, h2, hb⟩; have T := Lib.hid h2; have B1 := Lib.hid (chain B0.out hb); have P1 := Lib.hid (And.intro ((hb.cell (World.block_lt_of_cell? _ _ P0.out.1)).trans P0.out.1) ((hb.cell (World.block_lt_of_cell? _ _ P0.out.2)).trans P0.out.2)); clear h2 hb)
  go_loopw [5] (fun i wr => ∃ k : Nat, k ≤ 63 ∧ i = .int .i64 k ∧ Hid (∀ j, j < k → isE r l ((tab false).getD j ⟨0, 0, []⟩) = false) ∧ Hid (Below w1.heap.size w1 wr)) (fun i _ => 63 - (intOf i).toNat)
  case atStart => exact ⟨0, by omega, rfl, Lib.hid (fun j h => by omega), Lib.hid (Below.refl _ _)⟩
  case round =>
    obtain ⟨k, hk, rfl, HN, HB⟩ := hrel
    by_cases hk63 : k < 63
    · have t1 : (k : Int) < 63 := by omega
      have t0 : (0 : Int) ≤ (k : Int) := by omega
      have cc := T.out.cells hk63
      have hB := HB.out
      have p0 := (hB.cell (World.block_lt_of_cell? _ _ P1.out.1)).trans P1.out.1
      have p1 := (hB.cell (World.block_lt_of_cell? _ _ P1.out.2)).trans P1.out.2
      have q0 := (hB.cell (World.block_lt_of_cell? _ _ cc.1)).trans cc.1
      have q1 := (hB.cell (World.block_lt_of_cell? _ _ cc.2.1)).trans cc.2.1
      have q2 := (hB.cell (World.block_lt_of_cell? _ _ cc.2.2)).trans cc.2.2
      have HV := Lib.hid (rfl : isE r l ((tab false).getD k ⟨0, 0, []⟩) = isE r l ((tab false).getD k ⟨0, 0, []⟩))
      obtain ⟨t, ht⟩ : ∃ t, (tab false).getD k ⟨0, 0, []⟩ = t := ⟨_, rfl⟩
      rw [ht] at q0 q1 q2
      have HTT := Lib.hid ht
      obtain ⟨X, hX⟩ : ∃ X : Int, (t.run : Int) = X := ⟨_, rfl⟩
      obtain ⟨Y, hY⟩ : ∃ X : Int, (t.lvl : Int) = X := ⟨_, rfl⟩
      obtain ⟨m, hm⟩ : ∃ m, wrap64 (-l) = m := ⟨_, rfl⟩
      have HIV : Hid (isE r l t = (decide (X = r) && (decide (Y = l) || decide (Y = m)))) := Lib.hid (by unfold isE; rw [hX, hY, hm])
      rw [hX] at q0
      rw [hY] at q1
      obtain ⟨C, hC⟩ : ∃ C : ByteArray, sv (cs t.code) = .string C := ⟨_, rfl⟩
      rw [hC] at q2
      have HCC := Lib.hid hC
      have hm2 : IntKind.i64.wrap (-l) = m := (wrap64_i64 _).trans hm
      clear cc hB ht hX hY hC
      have hit : isE r l t = true → Hid (sv (shortL false r l) = .string C) := fun e => Lib.hid (by
        rw [← HCC.out, ← HTT.out]
        unfold shortL shortX
        rw [find_at (by rw [tab_len]; exact hk63) HN.out (by rw [HTT.out]; exact e)])
      have skip : isE r l t = false → Hid (∀ j, j < k + 1 → isE r l ((tab false).getD j ⟨0, 0, []⟩) = false) := fun e => Lib.hid (fun j hj => by
        by_cases h : j < k
        · exact HN.out j h
        · obtain rfl : j = k := by omega
          rw [HTT.out]; exact e)
      have HIT := Lib.hid hit
      have SKIP := Lib.hid skip
      clear hit skip
      by_cases e1 : X = r
      · subst e1
        by_cases e2 : Y = l
        · subst e2
          have G := HIT.out (by rw [HIV.out]; simp)
          go_wp2_with fail
          go_quiet (fail)
          go_wp2_with fail
          go_ret
          exact ⟨congrArg Ending.returned G.out.symm, below_drewN (chain B1.out HB.out) _⟩
        · have t2 : (Y == l) = false := by simp [e2]
          by_cases e3 : Y = m
          · have t3 : (Y == m) = true := by simp [e3]
            have G := HIT.out (by rw [HIV.out]; simp [e3])
            clear e2 e3
            go_wp2_with fail
            go_quiet (fail)
            go_wp2_with fail
            go_ret
            exact ⟨congrArg Ending.returned G.out.symm, below_drewN (chain B1.out HB.out) _⟩
          · have t3 : (Y == m) = false := by simp [e3]
            have G := SKIP.out (by rw [HIV.out]; simp [e2, e3])
            go_wp2_with fail
            go_quiet (fail)
            go_wp2_with fail
            go_roundw
            case rel => exact ⟨k + 1, by omega, by go_num, G, Lib.hid (below_drewN HB.out _)⟩
            case measure => simp [intOf]; omega
      · have t1 : (X == r) = false := by simp [e1]
        have G := SKIP.out (by rw [HIV.out]; simp [e1])
        go_wp2_with fail
        go_quiet (fail)
        go_wp2_with fail
        go_roundw
        case rel => exact ⟨k + 1, by omega, by go_num, G, Lib.hid (below_drewN HB.out _)⟩
        case measure => simp [intOf]; omega
    · obtain rfl : k = 63 := by omega
      have G : Hid (sv (shortL false r l) = .string ⟨#[]⟩) := Lib.hid (by
        unfold shortL shortX
        rw [find_no (fun j hj => HN.out j (by rw [tab_len] at hj; exact hj))]
        rfl)
      go_wp2_with fail
      go_ret
      exact ⟨congrArg Ending.returned G.out.symm, chain B1.out HB.out⟩
end
end Cf
end Go.Proofs.YtpibeocngkjolaaGreatDoor

namespace Go.Proofs.YtpibeocngkjolaaGreatDoor
open Go.RowKit
set_option linter.unusedSimpArgs false
set_option linter.unusedVariables false
namespace Cf
def fixE (e : Ent) : Ent := ⟨e.run, e.lvl, if e.code = [true, true] then [true] else e.code⟩
theorem tab_fix : tab true = (tab false).map fixE := by decide +kernel
def fixL (c : List UInt8) : List UInt8 := if c = [49, 49] then [49] else c
theorem shortL_true (r l : Int) : shortL true r l = fixL (shortL false r l) := by
  unfold shortL shortX
  rw [tab_fix, List.find?_map]
  have e : (isE r l ∘ fixE) = isE r l := by funext x; rfl
  rw [e]
  cases (tab false).find? (isE r l) with
  | none => rfl
  | some x =>
    show cs (fixE x).code = fixL (cs x.code)
    unfold fixE fixL
    by_cases h : x.code = [true, true]
    · simp only [h]; rfl
    · simp only [if_neg h]
      exact (if_neg (fun h2 : cs x.code = [49, 49] => h (cs_inj (b := [true, true]) h2))).symm
section
set_option maxRecDepth 100000
set_option maxHeartbeats 4000000
set_option linter.unusedVariables false
theorem rPut_any (r l : Int) (first : Bool) (w : World) (hT : Tabs w) :
    Calls Tryz.prog 48 #[prV r l, .bool first] w fun e w' => e = .returned (.tuple #[if pairB r l then sv (putL first r l) else sv [], .int .i64 (if pairB r l then 0 else 3)]) ∧ Below w.heap.size w w' := by
  have HP := Lib.hid (fun W => rPair_any r l W)
  have HS := Lib.hid (fun W => rcode_any r l W)
  have HE := Lib.hid (fun W h => rEscape_any r l W h)
  have P0 := Lib.hid (PK.new r l hT)
  have hn := shortL_len false r l
  have e1 : shortL first r l = if first then fixL (shortL false r l) else shortL false r l := by cases first; rfl; exact shortL_true r l
  unfold putL
  rw [e1]
  generalize shortL false r l = x at HS hn ⊢
  unfold prV at *
  clear hT e1
  by_cases hp : pairB r l
  · rw [if_pos hp] at HE
    rw [if_pos hp] at HE ⊢
    rw [if_pos hp]
    rw [hp] at HP
    by_cases hx : x = []
    · subst hx
      have e0 : (if first = true then fixL [] else []) = [] := by cases first <;> rfl
      rw [e0, if_pos rfl]
      clear hp hn e0
      unfold sv at HS HE ⊢
      go_enter Tryz.func48, Tryz.ntmps48
      go_wp2_with (first
        | (go_at_call 72; refine (HP.out _).mono ?_; rintro e w1 ⟨rfl, hB⟩; have P1 := Lib.hid (P0.out.below hB); have k0 := P1.out.c0; have k1 := P1.out.c1; clear hB)
        | (go_at_call 73; refine (HS.out _).mono ?_; rintro e w2 ⟨rfl, hB⟩; have P2 := Lib.hid (P1.out.below hB); have k0 := P2.out.c0; have k1 := P2.out.c1; clear hB)
        | (go_at_call 74; refine (HE.out _ P2.out.t).mono ?_; rintro e w3 ⟨rfl, hB⟩; have P3 := Lib.hid (P2.out.below hB); clear hB))
      go_ret2
      exact ⟨rfl, P3.out.bel⟩
    · have ef : fixL x ≠ [] := by unfold fixL; split <;> simp [hx]
      have e0 : (if (if first = true then fixL x else x) = [] then cs (escL r l) else (if first = true then fixL x else x) ++ [if l < 0 then 49 else 48]) = (if first = true then fixL x else x) ++ [if l < 0 then 49 else 48] := by
        cases first
        · exact if_neg hx
        · exact if_neg ef
      rw [e0]
      have he : (⟨x.toArray⟩ : ByteArray).toList.isEmpty = false := by rw [ByteArray.toList_mk]; cases x with | nil => exact absurd rfl hx | cons _ _ => rfl
      have hz := ba_size x
      have h11 : ((⟨x.toArray⟩ : ByteArray).toList == [49, 49]) = decide (x = [49, 49]) := by rw [ByteArray.toList_mk]; by_cases h : x = [49, 49] <;> simp [h]
      have HC0 := Lib.hid (show (⟨x.toArray⟩ : ByteArray) ++ ⟨#[48]⟩ = ⟨(x ++ [48]).toArray⟩ by apply ByteArray.ext; simp)
      have HC1 := Lib.hid (show (⟨x.toArray⟩ : ByteArray) ++ ⟨#[49]⟩ = ⟨(x ++ [49]).toArray⟩ by apply ByteArray.ext; simp)
      unfold sv at HS HE ⊢
      obtain ⟨S, hS⟩ : ∃ S : ByteArray, (⟨x.toArray⟩ : ByteArray) = S := ⟨_, rfl⟩
      rw [hS] at HS he hz HC0 HC1 h11
      have hz2 : S.size ≤ 13 := by omega
      clear hp hn hx hS hz e0 ef
      have hb : first = true ∧ x = [49, 49] ∨ (first = true ∧ x ≠ [49, 49]) ∨ first = false := by
        by_cases h1 : x = [49, 49]
        · cases first <;> simp [h1]
        · cases first <;> simp [h1]
      rcases hb with ⟨rfl, h1⟩ | ⟨rfl, h1⟩ | rfl
      · have ex : (if true = true then fixL x else x) = [49] := by rw [if_pos rfl, h1]; rfl
        rw [ex]
        rw [decide_eq_true h1] at h11
        clear h1 ex HC0 HC1
        by_cases h0 : l < 0
        · rw [if_pos h0]
          go_enter Tryz.func48, Tryz.ntmps48
          go_wp2_with (first
            | (go_at_call 72; refine (HP.out _).mono ?_; rintro e w1 ⟨rfl, hB⟩; have P1 := Lib.hid (P0.out.below hB); have k0 := P1.out.c0; have k1 := P1.out.c1; clear hB)
            | (go_at_call 73; refine (HS.out _).mono ?_; rintro e w2 ⟨rfl, hB⟩; have P2 := Lib.hid (P1.out.below hB); have k0 := P2.out.c0; have k1 := P2.out.c1; clear hB))
          go_ret2
          exact ⟨rfl, P2.out.bel⟩
        · rw [if_neg h0]
          go_enter Tryz.func48, Tryz.ntmps48
          go_wp2_with (first
            | (go_at_call 72; refine (HP.out _).mono ?_; rintro e w1 ⟨rfl, hB⟩; have P1 := Lib.hid (P0.out.below hB); have k0 := P1.out.c0; have k1 := P1.out.c1; clear hB)
            | (go_at_call 73; refine (HS.out _).mono ?_; rintro e w2 ⟨rfl, hB⟩; have P2 := Lib.hid (P1.out.below hB); have k0 := P2.out.c0; have k1 := P2.out.c1; clear hB))
          go_ret2
          exact ⟨rfl, P2.out.bel⟩
      · have ex : (if true = true then fixL x else x) = x := by rw [if_pos rfl]; exact if_neg h1
        rw [ex]
        rw [decide_eq_false h1] at h11
        clear h1 ex
        by_cases h0 : l < 0
        · rw [if_pos h0]
          go_enter Tryz.func48, Tryz.ntmps48
          go_wp2_with (first
            | (go_at_call 72; refine (HP.out _).mono ?_; rintro e w1 ⟨rfl, hB⟩; have P1 := Lib.hid (P0.out.below hB); have k0 := P1.out.c0; have k1 := P1.out.c1; clear hB)
            | (go_at_call 73; refine (HS.out _).mono ?_; rintro e w2 ⟨rfl, hB⟩; have P2 := Lib.hid (P1.out.below hB); have k0 := P2.out.c0; have k1 := P2.out.c1; clear hB))
          go_ret2
          exact ⟨by rw [← HC1.out]; rfl, P2.out.bel⟩
        · rw [if_neg h0]
          go_enter Tryz.func48, Tryz.ntmps48
          go_wp2_with (first
            | (go_at_call 72; refine (HP.out _).mono ?_; rintro e w1 ⟨rfl, hB⟩; have P1 := Lib.hid (P0.out.below hB); have k0 := P1.out.c0; have k1 := P1.out.c1; clear hB)
            | (go_at_call 73; refine (HS.out _).mono ?_; rintro e w2 ⟨rfl, hB⟩; have P2 := Lib.hid (P1.out.below hB); have k0 := P2.out.c0; have k1 := P2.out.c1; clear hB))
          go_ret2
          exact ⟨by rw [← HC0.out]; rfl, P2.out.bel⟩
      · have ex : (if false = true then fixL x else x) = x := if_neg (by simp)
        rw [ex]
        clear ex h11
        by_cases h0 : l < 0
        · rw [if_pos h0]
          go_enter Tryz.func48, Tryz.ntmps48
          go_wp2_with (first
            | (go_at_call 72; refine (HP.out _).mono ?_; rintro e w1 ⟨rfl, hB⟩; have P1 := Lib.hid (P0.out.below hB); have k0 := P1.out.c0; have k1 := P1.out.c1; clear hB)
            | (go_at_call 73; refine (HS.out _).mono ?_; rintro e w2 ⟨rfl, hB⟩; have P2 := Lib.hid (P1.out.below hB); have k0 := P2.out.c0; have k1 := P2.out.c1; clear hB))
          go_ret2
          exact ⟨by rw [← HC1.out]; rfl, P2.out.bel⟩
        · rw [if_neg h0]
          go_enter Tryz.func48, Tryz.ntmps48
          go_wp2_with (first
            | (go_at_call 72; refine (HP.out _).mono ?_; rintro e w1 ⟨rfl, hB⟩; have P1 := Lib.hid (P0.out.below hB); have k0 := P1.out.c0; have k1 := P1.out.c1; clear hB)
            | (go_at_call 73; refine (HS.out _).mono ?_; rintro e w2 ⟨rfl, hB⟩; have P2 := Lib.hid (P1.out.below hB); have k0 := P2.out.c0; have k1 := P2.out.c1; clear hB))
          go_ret2
          exact ⟨by rw [← HC0.out]; rfl, P2.out.bel⟩
  · rw [if_neg hp, if_neg hp]
    rw [Bool.eq_false_iff.2 hp] at HP
    clear hp hn
    unfold sv at *
    go_enter Tryz.func48, Tryz.ntmps48
    go_wp2_with (go_at_call 72; refine (HP.out _).mono ?_; rintro e w1 ⟨rfl, hB⟩; have P1 := Lib.hid (P0.out.below hB); clear hB)
    go_ret2
    exact ⟨rfl, P1.out.bel⟩
end
end Cf
end Go.Proofs.YtpibeocngkjolaaGreatDoor
