/- coeff.table; coeff.short. -/
import Derived.Test.YteigdcbaojmfgaaDoorCfU
import Derived.Test.YteigdcbaojmfgaaDoorCfE
import Derived.BigFrameIn
namespace Go.Proofs.YteigdcbaojmfgaaDoor
open Go.RowKit Go.Shelf
attribute [local go_sem] Oper.semAt_some
set_option linter.unusedSimpArgs false
set_option linter.unusedVariables false
namespace Cf
section
set_option maxRecDepth 100000
set_option maxHeartbeats 4000000
set_option linter.unusedVariables false
theorem table_any (first : Bool) (w : World) : Calls Tryd.prog 32 #[.bool first] w fun e w' => e = .returned (.func (.func 50) #[] #[.pointer (some ⟨w.heap.size, 0, none⟩)]) ∧ w' = w.alloc (.cells #[.bool first] 4) := by
  go_enter Tryd.func32, Tryd.ntmps32
  go_wp2_with fail
  go_ret
  exact ⟨rfl, rfl⟩
theorem tab_seq (first : Bool) (mm : Nat) (hm : 1 ≤ mm) (Bl : Nat) (w : World) (hB : Bl < w.heap.size) (hb : Boxed w Bl 4 (.bool first)) (hT : Tabs w) :
    SeqN mm Tryd.prog 50 #[.pointer (some ⟨Bl, 0, none⟩)] encT (KpT Bl) (fun ys => ys = tab first) (fun pre => pre <+: tab first) (tab first).length w := by
  intro l J Jx W hW hl hlW hJ hJx hY h0
  exact table1_in first mm hm l Bl (by omega) J Jx W hlW (Nat.lt_of_lt_of_le hB hW.size) (fun pre A C h hg => hJ pre A C none h hg (fun r e => by cases e)) hY h0 (hb.kept (grown_of_below hW none) (by simp)) (hT.below hW)
theorem obj_own {β : Type} (B : Nat) (o : Obj) (hc : o.isCells = true) : Own (fun (_ : β) W => W.heap[B]? = some o) := fun _ X _ _ hs hg hrow => by
  refine (hg.block B (Array.getElem?_eq_some_iff.1 hs).1 (fun e => ?_)).trans hs
  obtain ⟨o', ho, hcc⟩ := hrow B e.symm
  rw [hs] at ho
  cases ho
  rw [hc] at hcc
  cases hcc
theorem grown_cell (V : World) (b i : Nat) (v : Value) : V.grownBy (V.setCell ⟨b, i, none⟩ v) (some b) := grown_set (World.grownBy.refl V _) i v
theorem results_str {fn : Func} {p : Tmp} (hr : fn.results = #[.cell p 9]) (tmps : Array Value) {w : World} {B : Nat} {x : List UInt8}
    (hp : tmps.getD p undef = .pointer (some ⟨B, 0, none⟩)) (h : Boxed w B 9 (sv x)) : (results fn tmps).run Tryd.prog w = .ok (sv x) w := by
  have c2 := h.cell
  have hp' : tmps[p]?.getD undef = .pointer (some ⟨B, 0, none⟩) := by simpa using hp
  unfold sv at *
  simp [results, hr, hp', asAddr, loadVar, go_sem, c2, Tryd.underlying9]
/-- does the entry tell of the pair? -/
def isE (r l : Int) (e : Ent) : Bool := decide ((e.run : Int) = r) && (decide ((e.lvl : Int) = l) || decide ((e.lvl : Int) = wrap64 (-l)))
def shortX (xs : List Ent) (r l : Int) : List UInt8 := match xs.find? (isE r l) with | some e => cs e.code | none => []
def shortL (first : Bool) (r l : Int) : List UInt8 := shortX (tab first) r l
theorem shortX_none {xs : List Ent} {r l : Int} (h : ∀ x ∈ xs, isE r l x = false) : shortX xs r l = [] := by
  have e : xs.find? (isE r l) = none := List.find?_eq_none.2 (fun y hy => by rw [h y hy]; exact Bool.false_ne_true)
  unfold shortX
  rw [e]
structure SH (w : World) (r l : Int) (v : List UInt8) (V : World) : Prop where
  p : V.heap[w.heap.size]? = some (.cells #[.int .i64 r, .int .i64 l] 26 (0, 0))
  o : Boxed V (w.heap.size + 1) 9 (sv v)
  bel : Below w.heap.size w V
theorem sh_own {β : Type} {w : World} {r l : Int} {v : List UInt8} : OwnFrom w.heap.size (fun (_ : β) V => SH w r l v V) := fun s X Y row hs hg hr =>
  ⟨Own.from (obj_own (β := β) _ _ rfl) _ s X Y row hs.p hg hr, Own.from (boxed_own _ _ (fun _ : β => _)) _ s X Y row hs.o hg hr, ownFrom_below (Nat.le_refl _) (Nat.le_refl _) s X Y row hs.bel hg hr⟩
theorem find_pre {α : Type} {m : α → Bool} {pre xs : List α} {x : α} (h : pre <+: xs) (hf : pre.find? m = some x) : xs.find? m = some x := by
  obtain ⟨t, rfl⟩ := h
  rw [List.find?_append, hf]
  rfl
theorem kpT_below {B l : Nat} {V V' : World} (h : Below V.heap.size V V') : KpT B l V V' := ⟨h.size, fun i _ _ o ho _ => (h.block i (Array.getElem?_eq_some_iff.1 ho).1).trans ho, fun t => t.below h⟩
theorem SH.below {w : World} {r l : Int} {v : List UInt8} {V V' : World} (h : SH w r l v V) (hb : Below V.heap.size V V') : SH w r l v V' :=
  ⟨(hb.block _ (Array.getElem?_eq_some_iff.1 h.p).1).trans h.p, h.o.kept (grown_of_below hb none) (by simp), chain h.bel hb⟩
theorem short_any (r l : Int) (first : Bool) (w : World) (hT : Tabs w) : Calls Tryd.prog 38 #[prV r l, .bool first] w fun e w' => e = .returned (sv (shortL first r l)) ∧ Below w.heap.size w w' := by
  have HT := Lib.hid hT
  have S0 : SH w r l [] (((w.alloc (.cells #[.int .i64 r, .int .i64 l] 26)).alloc (.cells #[.string ⟨#[]⟩] 9)).alloc (.cells #[.bool first] 4)) := by
    refine ⟨?_, ?_, (((Below.refl w.heap.size w).alloc (Nat.le_refl _) _).alloc (by simp) _).alloc (by simp; omega) _⟩
    · have h1 := heap_alloc_new w (.cells #[.int .i64 r, .int .i64 l] 26)
      have l1 := (Array.getElem?_eq_some_iff.1 h1).1
      exact (Below.heap_alloc _ _ _ (by rw [World.size_alloc]; exact Nat.lt_succ_of_lt l1)).trans ((Below.heap_alloc _ _ _ l1).trans h1)
    · have h2 := Boxed.new (w.alloc (.cells #[.int .i64 r, .int .i64 l] 26)) 9 (.string ⟨#[]⟩)
      rw [World.size_alloc] at h2
      exact h2.alloc _
  have F0 : Boxed (((w.alloc (.cells #[.int .i64 r, .int .i64 l] 26)).alloc (.cells #[.string ⟨#[]⟩] 9)).alloc (.cells #[.bool first] 4)) (w.heap.size + 1 + 1) 4 (.bool first) := by
    have h2 := Boxed.new ((w.alloc (.cells #[.int .i64 r, .int .i64 l] 26)).alloc (.cells #[.string ⟨#[]⟩] 9)) 4 (.bool first)
    rw [World.size_alloc, World.size_alloc] at h2
    exact h2
  refine (callsIn_wide (n := 12)).1 ?_
  refine callsIn_of_wp_marks Tryd.func38 rfl trivial ?_ rfl
  simp only [Tryd.ntmps38, List.size_toArray, List.length_cons, List.length_nil, Nat.reduceAdd, Nat.reduceSub, Array.replicate_succ, Array.replicate_zero, List.push_toArray, List.append_toArray, List.nil_append, List.cons_append]
  unfold prV
  gi_wp2_with (refine ⟨trivial, ?_⟩; gi_at_call 32; refine (callsIn_wide.2 (table_any first _)).mono ?_; rintro e w' ⟨rfl, rfl⟩)
  obtain ⟨W0, hW0⟩ : ∃ W0, (((w.alloc (.cells #[.int .i64 r, .int .i64 l] 26)).alloc (.cells #[.string ⟨#[]⟩] 9)).alloc (.cells #[.bool first] 4)) = W0 := ⟨_, rfl⟩
  rw [hW0] at S0 F0
  rw [hW0]
  clear hW0
  have b0 := S0.bel.size
  have f0 := F0.lt
  refine rangeN (gf := 50) (lb := #[.pointer (some ⟨w.heap.size + 1 + 1, 0, none⟩)]) rfl (enters_of Tryd.func50 (by kernel_rfl) rfl)
    (tab_seq first 11 (by decide) (w.heap.size + 1 + 1) W0 f0 F0 (HT.out.below S0.bel)) kpT_t kpT_l (fun _ => rfl)
    (fun pre V => (∀ x ∈ pre, isE r l x = false) ∧ SH w r l [] V)
    (fun c pre V => c = .ret ∧ ∃ x, pre.find? (isE r l) = some x ∧ SH w r l (cs x.code) V)
    (OwnFrom.and (fun _ _ _ _ h _ _ => h) (fun s A C row h hg hr => sh_own (β := Unit) () A C row h hg (fun r e => by have := hr r e; exact ⟨by omega, this.2⟩)))
    (fun c => fun s A C row ⟨h1, x, h2, h3⟩ hg hr => ⟨h1, x, h2, sh_own (β := Unit) () A C row h3 hg (fun r e => by have := hr r e; exact ⟨by omega, this.2⟩)⟩)
    ⟨fun _ h => (by cases h), S0⟩
    (fun x a' V => ∃ q, V.heap[q]? = some (.cells #[.int .i64 x.run, .int .i64 x.lvl] 26 (0, 0)) ∧ a' = { tmps := #[.agg #[.int .i64 r, .int .i64 l], .bool first, .pointer (some ⟨w.heap.size, 0, none⟩), undef, .pointer (some ⟨w.heap.size + 1, 0, none⟩), .pointer (some ⟨q, 0, none⟩), sv (cs x.code), .bool first, .func (.func 50) #[] #[.pointer (some ⟨w.heap.size + 1 + 1, 0, none⟩)], .agg #[.int .i64 x.run, .int .i64 x.lvl], sv (cs x.code), undef, undef, undef, undef, undef, undef, undef, undef, undef, undef, undef, undef, undef, undef, undef, undef, undef, undef, undef, undef, undef], defers := [] })
    (fun x a' => fun s A C row ⟨q, h1, h2⟩ hg hr => ⟨q, Own.from (obj_own (β := Unit) q (.cells #[.int .i64 x.run, .int .i64 x.lvl] 26 (0, 0)) rfl) _ () A C row h1 hg hr, h2⟩)
    ?assign ?body ?done ?stop
  case assign =>
    rintro l pre x V K sV hl ⟨h, h0⟩ hK
    dsimp only [encT] at *
    gi_wp2
    have hb : Below V.heap.size V (V.alloc (.cells #[.int .i64 x.run, .int .i64 x.lvl] 26)) := (Below.refl _ V).alloc (Nat.le_refl _) _
    exact hK _ _ ((KeepsOthers.alloc _ _).from _) (kpT_below hb) ⟨h, h0.below hb⟩ ⟨V.heap.size, heap_alloc_new V _, rfl⟩
  case body =>
    rintro l2 pre x a' V hl ⟨r2, hr2⟩ ⟨hne, h0⟩ ⟨q, hq, rfl⟩ hlt
    obtain ⟨X, hX⟩ : ∃ X : Int, (x.run : Int) = X := ⟨_, rfl⟩
    obtain ⟨Y, hY⟩ : ∃ X : Int, (x.lvl : Int) = X := ⟨_, rfl⟩
    have hiv : isE r l x = (decide (X = r) && (decide (Y = l) || decide (Y = wrap64 (-l)))) := by unfold isE; rw [hX, hY]
    rw [hX, hY] at hq
    simp only [hX, hY]
    have q0 : V.cell? ⟨q, 0, none⟩ = some (.int .i64 X) := by simp [World.cell?, hq]
    have q1 : V.cell? ⟨q, 1, none⟩ = some (.int .i64 Y) := by simp [World.cell?, hq]
    have p0 : V.cell? ⟨w.heap.size, 0, none⟩ = some (.int .i64 r) := by simp [World.cell?, h0.p]
    have p1 : V.cell? ⟨w.heap.size, 1, none⟩ = some (.int .i64 l) := by simp [World.cell?, h0.p]
    have o0 := h0.o.cell
    have o1 := h0.o.frozen
    have H0 := Lib.hid h0
    have HV := Lib.hid hiv
    have HN := Lib.hid hne
    clear hne h0 hq hr2 hiv hX hY hlt S0 F0 hT
    have fin1 : isE r l x = false → KeepsFrom W0.heap.size V V ∧ KpT (w.heap.size + 1 + 1) l2 V V ∧ ((∀ y ∈ pre ++ [x], isE r l y = false) ∧ SH w r l [] V) := fun e => ⟨KeepsFrom.refl _ _, kpT_refl V, fun y hy => by
        rcases List.mem_append.1 hy with h | h
        · exact HN.out y h
        · rw [List.mem_singleton.1 h]; exact e, H0.out⟩
    have fin2 : isE r l x = true → KeepsFrom W0.heap.size V (V.setCell ⟨w.heap.size + 1, 0, none⟩ (sv (cs x.code))) ∧ KpT (w.heap.size + 1 + 1) l2 V (V.setCell ⟨w.heap.size + 1, 0, none⟩ (sv (cs x.code))) ∧ (Code.ret = Code.ret ∧ ∃ z, (pre ++ [x]).find? (isE r l) = some z ∧ SH w r l (cs z.code) (V.setCell ⟨w.heap.size + 1, 0, none⟩ (sv (cs x.code)))) := fun e => by
      have g := grown_cell V (w.heap.size + 1) 0 (sv (cs x.code))
      have b := H0.out.bel.setCell (p := ⟨w.heap.size + 1, 0, none⟩) (by simp) (sv (cs x.code))
      refine ⟨(KeepsOthers.setCell V _ _).from _, ⟨by simp, fun i hi _ o ho _ => (g.block i (Array.getElem?_eq_some_iff.1 ho).1 (fun e => by have := Option.some.inj e; omega)).trans ho, fun _ => HT.out.below b⟩, rfl, x, ?_, ?_⟩
      · rw [List.find?_append, List.find?_eq_none.2 (fun y hy => by rw [HN.out y hy]; simp)]
        simp [e]
      · exact ⟨(g.block _ (Array.getElem?_eq_some_iff.1 H0.out.p).1 (fun e => by have := Option.some.inj e; omega)).trans H0.out.p, H0.out.o.set _, b⟩
    obtain ⟨S, hS⟩ : ∃ S : ByteArray, sv (cs x.code) = .string S := ⟨_, rfl⟩
    have o2 : V.cell? ⟨w.heap.size + 1, 0, none⟩ = some (.string ⟨#[]⟩) := o0
    simp only [hS] at fin2
    rw [hS]
    clear hS o0
    have F1 := Lib.hid fin1
    have F2 := Lib.hid fin2
    clear fin1 fin2
    obtain ⟨m, hm⟩ : ∃ m, wrap64 (-l) = m := ⟨_, rfl⟩
    rw [hm] at HV
    by_cases e1 : X = r
    · subst e1
      by_cases e2 : Y = l
      · subst e2
        have G := Lib.hid (F2.out (by rw [HV.out]; simp))
        clear F1 F2 HN HV HT b0 f0 hl
        gi_wp2
        exact ⟨G.out.1, G.out.2.1, rfl, G.out.2.2.2⟩
      · have t2 : (Y == l) = false := by simp [e2]
        by_cases e3 : Y = m
        · have t3 : (Y == m) = true := by simp [e3]
          have G := Lib.hid (F2.out (by rw [HV.out]; simp [e3]))
          clear F1 F2 HN HV HT b0 f0 hl
          gi_wp2
          exact ⟨G.out.1, G.out.2.1, rfl, G.out.2.2.2⟩
        · have t3 : (Y == m) = false := by simp [e3]
          have G := Lib.hid (F1.out (by rw [HV.out]; simp [e2, e3]))
          clear F1 F2 HN HV HT b0 f0 hl
          gi_wp2
          exact ⟨G.out.1, G.out.2.1, G.out.2.2⟩
    · have t1 : (X == r) = false := by simp [e1]
      have G := Lib.hid (F1.out (by rw [HV.out]; simp [e1]))
      clear F1 F2 HN HV HT b0 f0 hl
      gi_wp2
      exact ⟨G.out.1, G.out.2.1, G.out.2.2⟩
  case stop =>
    rintro Dd c pre V hD hSp ⟨rfl, x, hf, h0⟩ hK
    have hsx : shortL first r l = cs x.code := by unfold shortL shortX; rw [find_pre hSp hf]
    have HX := Lib.hid hsx
    have hc : Dd ≠ w.heap.size + 1 := by omega
    clear hsx hf hSp HT hT S0 F0
    gi_wp2
    refine ⟨by simp, .inl ⟨_, _, rfl, run_takeDeferred hK, ?_⟩⟩
    have hg := grownBy_putObj' V Dd (.deferred none)
    exact ⟨_, results_str rfl _ rfl (h0.o.kept hg (fun e => hc (Option.some.inj e).symm)), by rw [HX.out], h0.bel.grown hg h0.bel.size (fun g hg => by cases hg; omega)⟩
  case done =>
    rintro Dd ys V hD hys ⟨hne, h0⟩ hK
    have hys2 : ys = tab first := hys
    have hsx : shortL first r l = [] := by
      unfold shortL
      rw [← hys2]
      exact shortX_none hne
    clear hys hys2
    have HX := Lib.hid hsx
    have hc : Dd ≠ w.heap.size + 1 := by omega
    have o0 : V.cell? ⟨w.heap.size + 1, 0, none⟩ = some (.string ⟨#[]⟩) := h0.o.cell
    have o1 := h0.o.frozen
    have H0 := Lib.hid h0
    have HK := Lib.hid hK
    clear h0 hK hne hsx HT hT S0 F0
    gi_wp2
    have b := H0.out.bel.setCell (p := ⟨w.heap.size + 1, 0, none⟩) (by simp) (sv [])
    have hb := H0.out.o.set (sv [])
    have hK2 := (KeepsOthers.setCell V ⟨w.heap.size + 1, 0, none⟩ (sv [])).same Dd _ HK.out rfl
    refine ⟨by simp, .inl ⟨_, _, rfl, run_takeDeferred hK2, ?_⟩⟩
    have hg := grownBy_putObj' (V.setCell ⟨w.heap.size + 1, 0, none⟩ (sv [])) Dd (.deferred none)
    exact ⟨_, results_str rfl _ rfl (hb.kept hg (fun e => hc (Option.some.inj e).symm)), by rw [HX.out], b.grown hg b.size (fun g hg => by cases hg; omega)⟩
end
end Cf
end Go.Proofs.YteigdcbaojmfgaaDoor
