/- coeff.Get: the table. | coeff.Get, whole. -/
import Derived.Test.YtpibeocngkjolaaGreatDoorMgCfZ
import Derived.Sort.AtCallIn
set_option linter.unusedVariables false
set_option linter.unusedSimpArgs false

namespace Go.Proofs.YtpibeocngkjolaaGreatDoor
open Go.RowKit Go.Shelf
attribute [local go_sem] Oper.semAt_some
set_option linter.unusedSimpArgs false
set_option linter.unusedVariables false
namespace Cf
section
set_option maxRecDepth 100000
set_option maxHeartbeats 4000000
set_option linter.unusedVariables false
def hitB (x : List UInt8) (e : Ent) : Bool := sameB x (cs e.code) && decide (e.code.length < x.length)
def nearB (x : List UInt8) (e : Ent) : Bool := sameB x (cs e.code) && decide (x.length ≤ e.code.length)
structure GY (B Bs Bm : Nat) (w : World) (S : ByteArray) (mo : Bool) (V : World) : Prop where
  g : GR B w 0 0 false 0 0 V
  s : Boxed V Bs 9 (.string S)
  m : Boxed V Bm 4 (.bool mo)
  b : B + 4 ≤ Bs ∧ Bs < Bm
theorem GY.below {B Bs Bm : Nat} {w : World} {S : ByteArray} {mo : Bool} {V V' : World} (h : GY B Bs Bm w S mo V) (hb : Below V.heap.size V V') : GY B Bs Bm w S mo V' :=
  ⟨h.g.below hb, h.s.kept (grown_of_below hb none) (by simp), h.m.kept (grown_of_below hb none) (by simp), h.b⟩
theorem GY.new {B Bs : Nat} {w V : World} {S : ByteArray} (mo : Bool) (h : GX B Bs w S V) : GY B Bs V.heap.size w S mo (V.alloc (.cells #[.bool mo] 4)) := by
  have hb : Below V.heap.size V (V.alloc (.cells #[.bool mo] 4)) := (Below.refl _ V).alloc (Nat.le_refl _) _
  have h2 := h.below hb
  exact ⟨h2.g, h2.s, Boxed.new V _ _, h.b, h.s.lt⟩
theorem GY.own {β : Type} {B Bs Bm : Nat} {w : World} {S : ByteArray} {mo : Bool} (hB : B ≤ w.heap.size) : OwnFrom B (fun (_ : β) V => GY B Bs Bm w S mo V) := fun s X Y row hs hg hr =>
  ⟨GR.own (β := β) hB s X Y row hs.g hg hr, Own.from (boxed_own _ _ (fun _ : β => _)) _ s X Y row hs.s hg hr, Own.from (boxed_own _ _ (fun _ : β => _)) _ s X Y row hs.m hg hr, hs.b⟩
/-- what Get tells by the table. -/
def lvS (x : List UInt8) (e : Ent) : Int := if x.getD e.code.length 0 = 49 then wrap64 (-(e.lvl : Int)) else e.lvl
def getX (x : List UInt8) (first : Bool) (mo : Bool) : Value :=
  match (tab first).find? (hitB x) with
  | some e => .tuple #[prV e.run (lvS x e), .bool false, .int .i64 (e.code.length + 1 : Nat), .int .i64 0]
  | none => .tuple #[prV 0 0, .bool false, .int .i64 0, .int .i64 (if mo || (tab first).any (nearB x) then 5 else 7)]
def getT (w : World) (x : List UInt8) (first mo : Bool) (e : Ending) (w' : World) : Prop := e = .returned (getX x first mo) ∧ Below w.heap.size w w'
/-- what a round keeps, but for the tables. -/
def KpU (B l : Nat) (W W' : World) : Prop := W.heap.size ≤ W'.heap.size ∧ (∀ i, B ≤ i → i ≠ l → ∀ o : Obj, W.heap[i]? = some o → NoPair o → W'.heap[i]? = some o)
theorem KpU.trans {B l : Nat} {X Y Z : World} (h : KpU B l X Y) (k : KpU B l Y Z) : KpU B l X Z := ⟨Nat.le_trans h.1 k.1, fun i hi hl o ho hn => k.2 i hi hl o (h.2 i hi hl o ho hn) hn⟩
theorem KpU.set {B l : Nat} (V : World) {b : Nat} (hb : b < B) (i : Nat) (v : Value) : KpU B l V (V.setCell ⟨b, i, none⟩ v) := ⟨by simp, fun j hj _ o ho _ => ((grown_cell V b i v).block j (Array.getElem?_eq_some_iff.1 ho).1 (fun e => by have := Option.some.inj e; omega)).trans ho⟩
theorem KpU.pair {B l : Nat} {V : World} {q : Nat} {vs : Array Value} {f : Nat × Nat} (hq : V.heap[q]? = some (.cells vs 69 f)) (i : Nat) (v : Value) : KpU B l V (V.setCell ⟨q, i, none⟩ v) := ⟨by simp, fun j _ _ o ho hn => ((grown_cell V q i v).block j (Array.getElem?_eq_some_iff.1 ho).1 (fun e => by
  have := Option.some.inj e
  subst this
  rw [hq] at ho
  cases ho
  exact hn _ _ rfl)).trans ho⟩
theorem KpU.below {B l : Nat} {V V' : World} (h : Below V.heap.size V V') : KpU B l V V' := ⟨h.size, fun i _ _ o ho _ => (h.block i (Array.getElem?_eq_some_iff.1 ho).1).trans ho⟩
theorem KpU.kp {B l : Nat} {w V V' : World} (h : KpU B l V V') (hT : Tabs w) (hb : Below w.heap.size w V') : KpT B l V V' := ⟨h.1, h.2, fun _ => hT.below hb⟩
theorem keeps_below {B : Nat} {W W' : World} (h : Below W.heap.size W W') : KeepsFrom B W W' :=
  ⟨h.size, fun i o _ ho _ => (h.block i (Array.getElem?_eq_some_iff.1 ho).1).trans ho⟩
def set5 (V : World) (B : Nat) (r l : Int) (en : Bool) (n e : Int) : World := ((((V.setCell ⟨B, 0, none⟩ (.int .i64 r)).setCell ⟨B, 1, none⟩ (.int .i64 l)).setCell ⟨B + 1, 0, none⟩ (.bool en)).setCell ⟨B + 1 + 1, 0, none⟩ (.int .i64 n)).setCell ⟨B + 1 + 1 + 1, 0, none⟩ (.int .i64 e)
theorem kpU5 {Bl l : Nat} (V : World) {B : Nat} (h : B + 4 ≤ Bl) (r lv : Int) (en : Bool) (n e : Int) : KpU Bl l V (set5 V B r lv en n e) :=
  ((((KpU.set V (by omega) _ _).trans (KpU.set _ (by omega) _ _)).trans (KpU.set _ (by omega) _ _)).trans (KpU.set _ (by omega) _ _)).trans (KpU.set _ (by omega) _ _)
theorem keeps5 (V : World) (B : Nat) (r lv : Int) (en : Bool) (n e : Int) : KeepsOthers V (set5 V B r lv en n e) :=
  ((((KeepsOthers.setCell V _ _).trans (KeepsOthers.setCell _ _ _)).trans (KeepsOthers.setCell _ _ _)).trans (KeepsOthers.setCell _ _ _)).trans (KeepsOthers.setCell _ _ _)
section
variable {x : List UInt8} {Bs Bm l q W0 : Nat} {w V V5 : World} {S : ByteArray} {mo : Bool} {pre : List Ent} {t : Ent}
theorem be_no (hne : ∀ y ∈ pre, hitB x y = false) (hh : hitB x t = false) : ∀ y ∈ pre ++ [t], hitB x y = false := fun y hy => by
  rcases List.mem_append.1 hy with h | h
  · exact hne y h
  · rw [List.mem_singleton.1 h]; exact hh
theorem be_any (f : Ent → Bool) : (mo || (pre ++ [t]).any f) = ((mo || pre.any f) || f t) := by simp [Bool.or_assoc]
theorem be_skip (hT : Tabs w) (hne : ∀ y ∈ pre, hitB x y = false) (h0 : GY w.heap.size Bs Bm w S (mo || pre.any (nearB x)) V) (h5 : Below V.heap.size V V5) (hs : sameB x (cs t.code) = false) :
    KeepsFrom W0 V V5 ∧ KpT (Bm + 1) l V V5 ∧ (∀ y ∈ pre ++ [t], hitB x y = false) ∧ GY w.heap.size Bs Bm w S (mo || (pre ++ [t]).any (nearB x)) V5 := by
  have h := h0.below h5
  refine ⟨keeps_below h5, (KpU.below h5).kp hT h.g.bel, be_no hne (by simp [hitB, hs]), ?_⟩
  rw [be_any, show nearB x t = false by simp [nearB, hs], Bool.or_false]
  exact h
theorem be_more (hT : Tabs w) (hne : ∀ y ∈ pre, hitB x y = false) (h0 : GY w.heap.size Bs Bm w S (mo || pre.any (nearB x)) V) (h5 : Below V.heap.size V V5) (hs : sameB x (cs t.code) = true) (hl : x.length ≤ t.code.length) :
    KeepsFrom W0 V (V5.setCell ⟨Bm, 0, none⟩ (.bool true)) ∧ KpT (Bm + 1) l V (V5.setCell ⟨Bm, 0, none⟩ (.bool true)) ∧ (∀ y ∈ pre ++ [t], hitB x y = false) ∧ GY w.heap.size Bs Bm w S (mo || (pre ++ [t]).any (nearB x)) (V5.setCell ⟨Bm, 0, none⟩ (.bool true)) := by
  have h := h0.below h5
  have hb := h.b
  have g := grown_cell V5 Bm 0 (.bool true)
  have G := h.g.grown g (fun _ e => by have := Option.some.inj e; omega)
  refine ⟨(keeps_below h5).trans ((KeepsOthers.setCell _ _ _).from _), ((KpU.below h5).trans (KpU.set _ (by omega) _ _)).kp hT G.bel, be_no hne (by simp [hitB, hs]; omega), ?_⟩
  rw [be_any, show nearB x t = true by simp [nearB, hs, hl], Bool.or_true]
  exact ⟨G, h.s.kept g (fun e => by have := Option.some.inj e; omega), h.m.set _, hb⟩
theorem be_hit0 (hT : Tabs w) (hne : ∀ y ∈ pre, hitB x y = false) (h0 : GY w.heap.size Bs Bm w S (mo || pre.any (nearB x)) V5) (ku : KpU (Bm + 1) l V V5) (kf : KeepsFrom W0 V V5) (hs : sameB x (cs t.code) = true) (hl : t.code.length < x.length) {lv nn : Int} (hlv : lv = lvS x t) (hn : nn = (t.code.length + 1 : Nat)) :
    GF w.heap.size V5 ∧ (KeepsFrom W0 V (set5 V5 w.heap.size t.run lv false nn 0) ∧ KpT (Bm + 1) l V (set5 V5 w.heap.size t.run lv false nn 0) ∧ (Code.ret = Code.ret ∧ ∃ y, (pre ++ [t]).find? (hitB x) = some y ∧ GR w.heap.size w y.run (lvS x y) false (y.code.length + 1 : Nat) 0 (set5 V5 w.heap.size t.run lv false nn 0))) := by
  have hb := h0.b
  have G := h0.g.set t.run lv false nn 0
  refine ⟨h0.g.facts, kf.trans ((keeps5 _ _ _ _ _ _ _).from _), (ku.trans (kpU5 V5 (by omega) _ _ _ _ _)).kp hT G.bel, rfl, t, ?_, ?_⟩
  · rw [List.find?_append, List.find?_eq_none.2 (fun y hy => by rw [hne y hy]; simp)]
    simp [hitB, hs, hl]
  · rw [← hlv, ← hn]
    exact G
theorem pair_set {W0 : Nat} {X Y : Int} (h0 : GY w.heap.size Bs Bm w S mo V) (hq : V.heap[q]? = some (.cells #[.int .i64 X, .int .i64 Y] 69 (0, 0))) (h5 : Below V.heap.size V V5) (hb : Bm < q) (Y' : Int) :
    (V5.setCell ⟨q, 1, none⟩ (.int .i64 Y')).heap[q]? = some (.cells #[.int .i64 X, .int .i64 Y'] 69 (0, 0)) ∧ GY w.heap.size Bs Bm w S mo (V5.setCell ⟨q, 1, none⟩ (.int .i64 Y')) ∧ KpU (Bm + 1) l V (V5.setCell ⟨q, 1, none⟩ (.int .i64 Y')) ∧ KeepsFrom W0 V (V5.setCell ⟨q, 1, none⟩ (.int .i64 Y')) := by
  have q5 := (h5.block q (Array.getElem?_eq_some_iff.1 hq).1).trans hq
  have h := h0.below h5
  have hbb := h.b
  have g := grown_cell V5 q 1 (.int .i64 Y')
  exact ⟨ob_set q5 1 _, ⟨h.g.grown g (fun _ e => by have := Option.some.inj e; omega), h.s.kept g (fun e => by have := Option.some.inj e; omega), h.m.kept g (fun e => by have := Option.some.inj e; omega), h.b⟩, (KpU.below h5).trans (KpU.pair q5 _ _), (keeps_below h5).trans ((KeepsOthers.setCell _ _ _).from _)⟩
end
theorem Get_tab1 (a : Option Addr) (N c p : Nat) (w : World) (x : List UInt8) (hN : N ≤ 1000000) (hp : p ≤ 8 * N) (hT : Tabs w)
    (HS : Hid (∀ W, Below w.heap.size w W → Calls Tryz.prog 85 #[.slice a N c, .int .i64 p] W fun e w' => e = .returned (sv x) ∧ Below W.heap.size W w')) (hs : sameB x escB = false) (hx : x.length ≤ 20) :
    Calls Tryz.prog 63 #[.slice a N c, .int .i64 p, .bool true] w (getT w x true false) := by
  have HT := Lib.hid hT
  have G0 := Lib.hid (GR.new w 0 0 false 0 0)
  have HC := Lib.hid (fun V => Count_any a N c V hN)
  have HM := Lib.hid (fun V => same_any x escB V)
  rw [hs] at HM
  have n0 : ¬ (p : Int) < 0 := by omega
  have n1 : ¬ (p : Int) > 8 * (N : Int) := by omega
  have n2 : decide (8 * (N : Int) < (p : Int)) = false := by rw [decide_eq_false_iff_not]; omega
  have HNEW := Lib.hid (fun V h => GX.new (V := V) ⟨x.toArray⟩ hT h)
  have HX := Lib.hid (fun (y : List UInt8) V => same_any x y V)
  have HXL := Lib.hid (ba_size x)
  have HLX := Lib.hid hx
  have HHN := Lib.hid hN
  unfold sv escB at HM
  unfold sv at HS
  have HX2 : Hid (∀ y V, Calls Tryz.prog 86 #[.string ⟨x.toArray⟩, sv y] V fun e w' => e = .returned (.bool (sameB x y)) ∧ Below V.heap.size V w') := HX
  clear HX
  obtain ⟨S, hS⟩ : ∃ S : ByteArray, (⟨x.toArray⟩ : ByteArray) = S := ⟨_, rfl⟩
  rw [hS] at HS HM HNEW HX2 HXL
  have HSH := Lib.hid hS
  clear hs hx hp hN hT hS
  refine (callsIn_wide (n := 14)).1 ?_
  refine callsIn_of_wp_marks Tryz.func63 rfl trivial ?_ rfl
  simp only [Tryz.ntmps63, List.size_toArray, List.length_cons, List.length_nil, Nat.reduceAdd, Nat.reduceSub, Array.replicate_succ, Array.replicate_zero, List.push_toArray, List.append_toArray, List.nil_append, List.cons_append]
  gi_wp2_with (refine ⟨trivial, ?_⟩; first
    | (gi_at_call 35; refine (callsIn_wide.2 (HC.out _)).mono ?_; rintro e w1 ⟨rfl, rfl⟩)
    | (gi_at_call 85; refine (callsIn_wide.2 (HS.out _ G0.out.bel)).mono ?_; rintro e w2 ⟨rfl, h2⟩; have X0 := Lib.hid (HNEW.out _ (G0.out.below h2)); clear h2)
    | (gi_at_call 86; refine (callsIn_wide.2 (HM.out _)).mono ?_; rintro e w3 ⟨rfl, h3⟩; have X1 := Lib.hid (X0.out.below h3); have s0 := X1.out.s.cell; clear h3)
    | (gi_at_call 89; refine (callsIn_wide.2 (table_any true _)).mono ?_; rintro e w' ⟨rfl, rfl⟩)
    | (go_at_K))
  have y0 : GY w.heap.size w2.heap.size w3.heap.size w S false ((w3.alloc (.cells #[.bool false] 4)).alloc (.cells #[.bool true] 4)) := (GY.new false X1.out).below ((Below.refl _ _).alloc (Nat.le_refl _) _)
  have F0 : Boxed ((w3.alloc (.cells #[.bool false] 4)).alloc (.cells #[.bool true] 4)) (w3.heap.size + 1) 4 (.bool true) := by
    have h2 := Boxed.new (w3.alloc (.cells #[.bool false] 4)) 4 (.bool true)
    rw [World.size_alloc] at h2
    exact h2
  obtain ⟨W0, hW0⟩ : ∃ W0, ((w3.alloc (.cells #[.bool false] 4)).alloc (.cells #[.bool true] 4)) = W0 := ⟨_, rfl⟩
  rw [hW0] at y0 F0
  rw [hW0]
  clear hW0
  have b0 := y0.g.bel.size
  have f0 := F0.lt
  have bb := y0.b
  obtain ⟨Bm, hBm⟩ : ∃ b, w3.heap.size = b := ⟨_, rfl⟩
  obtain ⟨Bs, hBs⟩ : ∃ b, w2.heap.size = b := ⟨_, rfl⟩
  rw [hBm, hBs] at y0 bb
  rw [hBm] at F0 f0
  have HBM := Lib.hid hBm
  have HBS := Lib.hid hBs
  have T0 := Lib.hid (HT.out.below y0.g.bel)
  clear hBm hBs
  refine rangeN (gf := 109) (lb := #[.pointer (some ⟨w3.heap.size + 1, 0, none⟩)]) rfl (enters_of Tryz.func109 (by kernel_rfl) rfl)
    (tab_seq true 13 (by decide) (w3.heap.size + 1) W0 (by rw [HBM.out]; exact f0) (by rw [HBM.out]; exact F0) T0.out) kpT_t kpT_l (fun _ => rfl)
    (fun pre V => (∀ y ∈ pre, hitB x y = false) ∧ GY w.heap.size Bs Bm w S (false || pre.any (nearB x)) V)
    (fun c pre V => c = .ret ∧ ∃ y, pre.find? (hitB x) = some y ∧ GR w.heap.size w y.run (lvS x y) false (y.code.length + 1 : Nat) 0 V)
    (OwnFrom.and (fun _ _ _ _ h _ _ => h) (fun s A C row h hg hr => GY.own (β := Unit) (Nat.le_refl _) () A C row h hg (fun r e => by have := hr r e; exact ⟨by omega, this.2⟩)))
    (fun c => fun s A C row ⟨h1, y, h2, h3⟩ hg hr => ⟨h1, y, h2, GR.own (β := Unit) (Nat.le_refl _) () A C row h3 hg (fun r e => by have := hr r e; exact ⟨by omega, this.2⟩)⟩)
    ⟨fun _ h => (by cases h), (by have e : (false || List.any [] (nearB x)) = false := by simp
                                  rw [e]; exact y0)⟩
    (fun t a' V => ∃ q, W0.heap.size ≤ q ∧ V.heap[q]? = some (.cells #[.int .i64 t.run, .int .i64 t.lvl] 69 (0, 0)) ∧ a' = { tmps := #[.slice a N c, .int .i64 (p : Int), .bool true, undef, undef, undef, .pointer (some ⟨w.heap.size, 0, none⟩), .pointer (some ⟨w.heap.size + 1, 0, none⟩), .pointer (some ⟨w.heap.size + 1 + 1, 0, none⟩), .pointer (some ⟨w.heap.size + 1 + 1 + 1, 0, none⟩), .pointer (some ⟨w2.heap.size, 0, none⟩), undef, .pointer (some ⟨w3.heap.size, 0, none⟩), .pointer (some ⟨q, 0, none⟩), sv (cs t.code), .bool false, .int .i64 (p : Int), .bool false, undef, .bool false, .int .i64 (p : Int), .slice a N c, .int .i64 (8 * (N : Int)), .bool false, undef, .slice a N c, .int .i64 (p : Int), .string S, .string S, .bool false, undef, undef, undef, undef, undef, undef, undef, undef, undef, undef, undef, undef, undef, undef, undef, undef, undef, undef, undef, undef, undef, .bool true, .bool false, .bool false, undef, undef, .bool false, undef, .bool true, .bool false, .bool false, undef, undef, .bool false, .bool true, .func (.func 109) #[] #[.pointer (some ⟨w3.heap.size + 1, 0, none⟩)], .agg #[.int .i64 t.run, .int .i64 t.lvl], sv (cs t.code), undef, undef, undef, undef, undef, undef, undef, undef, undef, undef, undef, undef, undef, undef, undef, undef, undef, undef, undef, undef, undef, undef, undef, undef, undef], defers := [] })
    (fun t a' => fun s A C row ⟨q, h0, h1, h2⟩ hg hr => ⟨q, h0, Own.from (obj_own (β := Unit) q (.cells #[.int .i64 t.run, .int .i64 t.lvl] 69 (0, 0)) rfl) _ () A C row h1 hg hr, h2⟩)
    ?assign ?body ?done ?stop
  case assign =>
    rintro l pre t V K sV hl ⟨h, h0⟩ hK
    dsimp only [encT] at *
    gi_wp2
    have hb : Below V.heap.size V (V.alloc (.cells #[.int .i64 t.run, .int .i64 t.lvl] 69)) := (Below.refl _ V).alloc (Nat.le_refl _) _
    exact hK _ _ ((KeepsOthers.alloc _ _).from _) (kpT_below hb) ⟨h, h0.below hb⟩ ⟨V.heap.size, by omega, heap_alloc_new V _, rfl⟩
  case body =>
    rintro l2 pre t a' V hl ⟨r2, hr2⟩ ⟨hne, h0⟩ ⟨q, hq0, hq, rfl⟩ hlt
    have HSM := Lib.hid (fun V => HX2.out (cs t.code) V)
    have s0' := h0.s.cell
    have hcl : (cs t.code).length = t.code.length := cs_len _
    have hrw : w3.heap.size + 1 = Bm + 1 := by rw [HBM.out]
    have hrw0 : w3.heap.size = Bm := HBM.out
    rw [hrw, hrw0, HBS.out]
    obtain ⟨n, hn⟩ : ∃ n, t.code.length = n := ⟨_, rfl⟩
    obtain ⟨C, hC⟩ : ∃ C : ByteArray, sv (cs t.code) = .string C := ⟨_, rfl⟩
    have hCz : C.size = n := by
      unfold sv at hC
      injection hC with h
      rw [← h, ba_size, hcl, hn]
    have HD := Lib.hid h0
    have HNE := Lib.hid hne
    have HQ := Lib.hid hq
    have HCN := Lib.hid hn
    have hSz := HXL.out
    obtain ⟨Z, hZ⟩ : ∃ Z, x.length = Z := ⟨_, rfl⟩
    rw [hZ] at hSz
    have HZ := Lib.hid hZ
    have ql := (Array.getElem?_eq_some_iff.1 hq).1
    have HQL := Lib.hid ql
    have HQQ : Hid (Bm < q) := Lib.hid (by omega)
    have HL2 := Lib.hid hl
    clear hl
    clear hne hr2 hlt hrw hrw0 h0 y0 F0 hn hcl hq ql hZ f0
    rw [hC] at HSM ⊢
    by_cases hs : sameB x (cs t.code) = true
    · rw [hs] at HSM
      have HS1 := Lib.hid hs
      by_cases hl : n < Z
      · have hel : ∀ h : n < S.size, S[n]'h = x.getD n 0 := by
          intro h
          have e := HSH.out
          subst e
          have h2 : n < x.length := h
          rw [List.getD_eq_getElem?_getD, List.getElem?_eq_getElem h2]
          rfl
        have hl2 : ¬ (Z : Int) ≤ (n : Int) := by omega
        have hi0 : (n : Int) < (Z : Int) := by omega
        have hz20 : Z ≤ 20 := by rw [← HZ.out]; exact HLX.out
        have hlt : Hid (t.code.length < x.length) := Lib.hid (by rw [HCN.out, HZ.out]; exact hl)
        obtain ⟨X, hX⟩ : ∃ X : Int, (t.run : Int) = X := ⟨_, rfl⟩
        obtain ⟨Y, hY⟩ : ∃ X : Int, (t.lvl : Int) = X := ⟨_, rfl⟩
        rw [hX, hY] at HQ
        rw [hX, hY]
        have HXX := Lib.hid hX
        have hcast : ((n + 1 : Nat) : Int) = (n : Int) + 1 := by omega
        have HLV : Hid (lvS x t = if x.getD n 0 = 49 then wrap64 (-Y) else Y) := Lib.hid (by unfold lvS; rw [HCN.out, hY])
        have HCAST := Lib.hid hcast
        clear hX hY hcast hs bb b0
        by_cases hc : x.getD n 0 = 49
        · rw [if_pos hc] at HLV
          rw [hc] at hel
          clear hc
          obtain ⟨Y', hY'⟩ : ∃ Y', wrap64 (-Y) = Y' := ⟨_, rfl⟩
          rw [hY'] at HLV
          gi_wp2_with (refine ⟨trivial, ?_⟩; first
          | (gi_at_call 86; refine (CallsIn.inRound l2 (callsIn_wide.2 (HSM.out _))).mono ?_; rintro e w5 ⟨rfl, h5⟩; have D5 := HD.out.below h5; have k5 := KpU.below (B := Bm + 1) (l := l2) h5; have kf5 := keeps_below (B := W0.heap.size) h5; have q5 := (h5.block q HQL.out).trans HQ.out; have s5 := D5.s.cell; have q0 : w5.cell? ⟨q, 0, none⟩ = some (.int .i64 X) := cell_row q5 (i := 0) rfl; have q1 : w5.cell? ⟨q, 1, none⟩ = some (.int .i64 Y) := cell_row q5 (i := 1) rfl; have f1 := frozen_of_row q5 1; have Q5 := Lib.hid q5; have P6 := Lib.hid (pair_set (W0 := W0.heap.size) (l := l2) HD.out HQ.out h5 HQQ.out Y'); obtain ⟨w6, h6⟩ : ∃ w6, w5.setCell ⟨q, 1, none⟩ (.int .i64 Y') = w6 := ⟨_, rfl⟩; rw [h6] at P6; have q60 : w6.cell? ⟨q, 0, none⟩ = some (.int .i64 X) := cell_row P6.out.1 (i := 0) rfl; have q61 : w6.cell? ⟨q, 1, none⟩ = some (.int .i64 Y') := cell_row P6.out.1 (i := 1) rfl; have F1 := Lib.hid (be_hit0 HT.out HNE.out P6.out.2.1 P6.out.2.2.1 P6.out.2.2.2 HS1.out hlt.out HLV.out.symm (nn := (n : Int) + 1) (by rw [HCN.out, HCAST.out])); rw [HXX.out] at F1; obtain ⟨r0, r1, x0, x1, x2, c0, c1, c2, d0, d1⟩ := F1.out.1; clear D5 k5 kf5 q5 h5)
          | (go_at_K))
          have G := F1.out.2
          simp only [set5] at G
          exact ⟨G.1, G.2.1, rfl, G.2.2.2⟩
        · rw [if_neg hc] at HLV
          obtain ⟨ch, hch⟩ : ∃ c, x.getD n 0 = c := ⟨_, rfl⟩
          rw [hch] at hel hc
          have hc2 : ((ch.toNat : Int) == 49) = false := by
            rw [beq_eq_false_iff_ne]
            intro e
            exact hc (UInt8.toNat_inj.1 (by have : (49 : UInt8).toNat = 49 := rfl; omega))
          clear hc hch
          gi_wp2_with (refine ⟨trivial, ?_⟩; first
          | (gi_at_call 86; refine (CallsIn.inRound l2 (callsIn_wide.2 (HSM.out _))).mono ?_; rintro e w5 ⟨rfl, h5⟩; have D5 := HD.out.below h5; have k5 := KpU.below (B := Bm + 1) (l := l2) h5; have kf5 := keeps_below (B := W0.heap.size) h5; have q5 := (h5.block q HQL.out).trans HQ.out; have s5 := D5.s.cell; have q0 : w5.cell? ⟨q, 0, none⟩ = some (.int .i64 X) := cell_row q5 (i := 0) rfl; have q1 : w5.cell? ⟨q, 1, none⟩ = some (.int .i64 Y) := cell_row q5 (i := 1) rfl; have F1 := Lib.hid (be_hit0 HT.out HNE.out D5 k5 kf5 HS1.out hlt.out HLV.out.symm (nn := (n : Int) + 1) (by rw [HCN.out, HCAST.out])); rw [HXX.out] at F1; obtain ⟨r0, r1, x0, x1, x2, c0, c1, c2, d0, d1⟩ := F1.out.1; clear D5 k5 kf5 q5 h5)
          | (go_at_K))
          have G := F1.out.2
          simp only [set5] at G
          exact ⟨G.1, G.2.1, rfl, G.2.2.2⟩
      · have hl2 : (Z : Int) ≤ (n : Int) := by omega
        have hlt : Hid (x.length ≤ t.code.length) := Lib.hid (by rw [HCN.out, HZ.out]; omega)
        clear hs bb b0 hl
        gi_wp2_with (refine ⟨trivial, ?_⟩; first
          | (gi_at_call 86; refine (CallsIn.inRound l2 (callsIn_wide.2 (HSM.out _))).mono ?_; rintro e w5 ⟨rfl, h5⟩; have F1 := Lib.hid (be_more (W0 := W0.heap.size) (l := l2) HT.out HNE.out HD.out h5 HS1.out hlt.out); have D5 := HD.out.below h5; have s5 := D5.s.cell; have m5 := D5.m.cell; have m6 := D5.m.frozen; clear h5 D5)
          | (go_at_K))
        exact ⟨F1.out.1, F1.out.2.1, F1.out.2.2⟩
    · rw [Bool.eq_false_iff.2 hs] at HSM
      have HS1 := Lib.hid (Bool.eq_false_iff.2 hs)
      clear hs hSz hCz bb b0 hq0
      gi_wp2_with (refine ⟨trivial, ?_⟩; first
          | (gi_at_call 86; refine (CallsIn.inRound l2 (callsIn_wide.2 (HSM.out _))).mono ?_; rintro e w5 ⟨rfl, h5⟩; have F1 := Lib.hid (be_skip (W0 := W0.heap.size) (l := l2) HT.out HNE.out HD.out h5 HS1.out); have s5 := F1.out.2.2.2.s.cell; clear h5)
          | (go_at_K))
      exact ⟨F1.out.1, F1.out.2.1, F1.out.2.2⟩
  case stop =>
    rintro Dd c pre V hD hSp ⟨rfl, t, hf, h0⟩ hK
    have hsx : getX x true (false) = .tuple #[prV t.run (lvS x t), .bool false, .int .i64 (t.code.length + 1 : Nat), .int .i64 0] := by unfold getX; rw [find_pre hSp hf]
    have HX := Lib.hid hsx
    have hc : w.heap.size + 4 ≤ Dd := by omega
    clear hsx hf hSp HT
    gi_wp2
    refine ⟨by simp, .inl ⟨_, _, rfl, run_takeDeferred hK, ?_⟩⟩
    have G := h0.grown (grownBy_putObj' V Dd (.deferred none)) (fun x e => by cases e; exact hc)
    exact ⟨_, results_get rfl _ rfl rfl rfl rfl G, by first | rw [HX.out] | rw [← hmo0, HX.out], G.bel⟩
  case done =>
    rintro Dd ys V hD hys ⟨hne, h0⟩ hK
    have hys2 : ys = tab true := hys
    rw [hys2] at hne h0
    have hsx : getX x true (false) = .tuple #[prV 0 0, .bool false, .int .i64 0, .int .i64 (if false || (tab true).any (nearB x) then 5 else 7)] := by
      unfold getX
      rw [List.find?_eq_none.2 (fun y hy => by rw [hne y hy]; simp)]
    have HX := Lib.hid hsx
    have hc : w.heap.size + 4 ≤ Dd := by omega
    have HC0 := Lib.hid hc
    obtain ⟨mm, hmm⟩ : ∃ m, (false || (tab true).any (nearB x)) = m := ⟨_, rfl⟩
    rw [hmm] at h0 HX
    have m5 := h0.m.cell
    obtain ⟨r0, r1, x0, x1, x2, c0, c1, c2, d0, d1⟩ := h0.g.facts
    have H0 := Lib.hid h0
    have HK := Lib.hid hK
    clear h0 hK hne hsx HT hys hys2 hmm y0 F0 hc hD b0 f0 bb
    rw [HBM.out]
    cases mm
    · gi_wp2
      have G := H0.out.g.set 0 0 false 0 7
      have hK2 := (keeps5 V w.heap.size 0 0 false 0 7).same Dd _ HK.out rfl
      refine ⟨by simp, .inl ⟨_, _, rfl, run_takeDeferred hK2, ?_⟩⟩
      have G2 := G.grown (grownBy_putObj' _ Dd (.deferred none)) (fun x e => by cases e; exact HC0.out)
      exact ⟨_, results_get rfl _ rfl rfl rfl rfl G2, by (first | rw [HX.out] | rw [← hmo0, HX.out]); rfl, G2.bel⟩
    · gi_wp2
      have G := H0.out.g.set 0 0 false 0 5
      have hK2 := (keeps5 V w.heap.size 0 0 false 0 5).same Dd _ HK.out rfl
      refine ⟨by simp, .inl ⟨_, _, rfl, run_takeDeferred hK2, ?_⟩⟩
      have G2 := G.grown (grownBy_putObj' _ Dd (.deferred none)) (fun x e => by cases e; exact HC0.out)
      exact ⟨_, results_get rfl _ rfl rfl rfl rfl G2, by (first | rw [HX.out] | rw [← hmo0, HX.out]); rfl, G2.bel⟩
theorem Get_tab0 (a : Option Addr) (N c p : Nat) (w : World) (x : List UInt8) (hN : N ≤ 1000000) (hp : p ≤ 8 * N) (hT : Tabs w)
    (HS : Hid (∀ W, Below w.heap.size w W → Calls Tryz.prog 85 #[.slice a N c, .int .i64 p] W fun e w' => e = .returned (sv x) ∧ Below W.heap.size W w')) (hs : sameB x escB = false) (hx : x.length ≤ 20) (hnp : Lib.hasPrefix x [49, 48] = false) :
    Calls Tryz.prog 63 #[.slice a N c, .int .i64 p, .bool false] w (getT w x false (sameB x [49, 48])) := by
  have HT := Lib.hid hT
  have G0 := Lib.hid (GR.new w 0 0 false 0 0)
  have HC := Lib.hid (fun V => Count_any a N c V hN)
  have HM := Lib.hid (fun V => same_any x escB V)
  rw [hs] at HM
  have HM2 := Lib.hid (fun V => same_any x [49, 48] V)
  have HHP := Lib.hid (fun V => Tryz.strings_HasPrefix ⟨x.toArray⟩ ⟨#[49, 48]⟩ V)
  have ehp : Lib.hasPrefix (⟨x.toArray⟩ : ByteArray).data.toList (⟨#[49, 48]⟩ : ByteArray).data.toList = false := hnp
  rw [ehp] at HHP
  clear ehp hnp
  have n0 : ¬ (p : Int) < 0 := by omega
  have n1 : ¬ (p : Int) > 8 * (N : Int) := by omega
  have n2 : decide (8 * (N : Int) < (p : Int)) = false := by rw [decide_eq_false_iff_not]; omega
  have HNEW := Lib.hid (fun V h => GX.new (V := V) ⟨x.toArray⟩ hT h)
  have HX := Lib.hid (fun (y : List UInt8) V => same_any x y V)
  have HXL := Lib.hid (ba_size x)
  have HLX := Lib.hid hx
  have HHN := Lib.hid hN
  unfold sv escB at HM
  unfold sv at HS HM2
  have HX2 : Hid (∀ y V, Calls Tryz.prog 86 #[.string ⟨x.toArray⟩, sv y] V fun e w' => e = .returned (.bool (sameB x y)) ∧ Below V.heap.size V w') := HX
  clear HX
  obtain ⟨S, hS⟩ : ∃ S : ByteArray, (⟨x.toArray⟩ : ByteArray) = S := ⟨_, rfl⟩
  rw [hS] at HS HM HNEW HX2 HXL HM2 HHP
  obtain ⟨mo0, hmo0⟩ : ∃ m, sameB x [49, 48] = m := ⟨_, rfl⟩
  rw [hmo0] at HM2
  have HSH := Lib.hid hS
  clear hs hx hp hN hT hS
  refine (callsIn_wide (n := 14)).1 ?_
  refine callsIn_of_wp_marks Tryz.func63 rfl trivial ?_ rfl
  simp only [Tryz.ntmps63, List.size_toArray, List.length_cons, List.length_nil, Nat.reduceAdd, Nat.reduceSub, Array.replicate_succ, Array.replicate_zero, List.push_toArray, List.append_toArray, List.nil_append, List.cons_append]
  gi_wp2_with (refine ⟨trivial, ?_⟩; first
    | (gi_at_call 35; refine (callsIn_wide.2 (HC.out _)).mono ?_; rintro e w1 ⟨rfl, rfl⟩)
    | (gi_at_call 85; refine (callsIn_wide.2 (HS.out _ G0.out.bel)).mono ?_; rintro e w2 ⟨rfl, h2⟩; have X0 := Lib.hid (HNEW.out _ (G0.out.below h2)); clear h2)
    | (gi_at_call_has 86 (Value.string ⟨#[48, 48, 48, 48, 48, 49]⟩); refine (callsIn_wide.2 (HM.out _)).mono ?_; rintro e w3 ⟨rfl, h3⟩; have X1 := Lib.hid (X0.out.below h3); have s0 := X1.out.s.cell; clear h3)
    | (gi_at_call_has 86 (Value.string ⟨#[49, 48]⟩); refine (callsIn_wide.2 (HM2.out _)).mono ?_; rintro e w4 ⟨rfl, h4⟩; have X2 := Lib.hid (X1.out.below h4); have s0 := X2.out.s.cell; clear h4)
    | (gi_at_call 88; refine (callsIn_wide.2 (HHP.out _)).mono ?_; rintro e w5 ⟨rfl, rfl⟩)
    | (gi_at_call 89; refine (callsIn_wide.2 (table_any false _)).mono ?_; rintro e w' ⟨rfl, rfl⟩)
    | (go_at_K))
  have y0 : GY w.heap.size w2.heap.size w4.heap.size w S mo0 ((w4.alloc (.cells #[.bool mo0] 4)).alloc (.cells #[.bool false] 4)) := (GY.new mo0 X2.out).below ((Below.refl _ _).alloc (Nat.le_refl _) _)
  have F0 : Boxed ((w4.alloc (.cells #[.bool mo0] 4)).alloc (.cells #[.bool false] 4)) (w4.heap.size + 1) 4 (.bool false) := by
    have h2 := Boxed.new (w4.alloc (.cells #[.bool mo0] 4)) 4 (.bool false)
    rw [World.size_alloc] at h2
    exact h2
  obtain ⟨W0, hW0⟩ : ∃ W0, ((w4.alloc (.cells #[.bool mo0] 4)).alloc (.cells #[.bool false] 4)) = W0 := ⟨_, rfl⟩
  rw [hW0] at y0 F0
  rw [hW0]
  clear hW0
  have b0 := y0.g.bel.size
  have f0 := F0.lt
  have bb := y0.b
  obtain ⟨Bm, hBm⟩ : ∃ b, w4.heap.size = b := ⟨_, rfl⟩
  obtain ⟨Bs, hBs⟩ : ∃ b, w2.heap.size = b := ⟨_, rfl⟩
  rw [hBm, hBs] at y0 bb
  rw [hBm] at F0 f0
  have HBM := Lib.hid hBm
  have HBS := Lib.hid hBs
  have T0 := Lib.hid (HT.out.below y0.g.bel)
  clear hBm hBs
  refine rangeN (gf := 109) (lb := #[.pointer (some ⟨w4.heap.size + 1, 0, none⟩)]) rfl (enters_of Tryz.func109 (by kernel_rfl) rfl)
    (tab_seq false 13 (by decide) (w4.heap.size + 1) W0 (by rw [HBM.out]; exact f0) (by rw [HBM.out]; exact F0) T0.out) kpT_t kpT_l (fun _ => rfl)
    (fun pre V => (∀ y ∈ pre, hitB x y = false) ∧ GY w.heap.size Bs Bm w S (mo0 || pre.any (nearB x)) V)
    (fun c pre V => c = .ret ∧ ∃ y, pre.find? (hitB x) = some y ∧ GR w.heap.size w y.run (lvS x y) false (y.code.length + 1 : Nat) 0 V)
    (OwnFrom.and (fun _ _ _ _ h _ _ => h) (fun s A C row h hg hr => GY.own (β := Unit) (Nat.le_refl _) () A C row h hg (fun r e => by have := hr r e; exact ⟨by omega, this.2⟩)))
    (fun c => fun s A C row ⟨h1, y, h2, h3⟩ hg hr => ⟨h1, y, h2, GR.own (β := Unit) (Nat.le_refl _) () A C row h3 hg (fun r e => by have := hr r e; exact ⟨by omega, this.2⟩)⟩)
    ⟨fun _ h => (by cases h), (by have e : (mo0 || List.any [] (nearB x)) = mo0 := by simp
                                  rw [e]; exact y0)⟩
    (fun t a' V => ∃ q, W0.heap.size ≤ q ∧ V.heap[q]? = some (.cells #[.int .i64 t.run, .int .i64 t.lvl] 69 (0, 0)) ∧ a' = { tmps := #[.slice a N c, .int .i64 (p : Int), .bool false, undef, undef, undef, .pointer (some ⟨w.heap.size, 0, none⟩), .pointer (some ⟨w.heap.size + 1, 0, none⟩), .pointer (some ⟨w.heap.size + 1 + 1, 0, none⟩), .pointer (some ⟨w.heap.size + 1 + 1 + 1, 0, none⟩), .pointer (some ⟨w2.heap.size, 0, none⟩), undef, .pointer (some ⟨w4.heap.size, 0, none⟩), .pointer (some ⟨q, 0, none⟩), sv (cs t.code), .bool false, .int .i64 (p : Int), .bool false, undef, .bool false, .int .i64 (p : Int), .slice a N c, .int .i64 (8 * (N : Int)), .bool false, undef, .slice a N c, .int .i64 (p : Int), .string S, .string S, .bool false, undef, undef, undef, undef, undef, undef, undef, undef, undef, undef, undef, undef, undef, undef, undef, undef, undef, undef, undef, undef, undef, .bool false, .bool true, .bool true, .string S, .bool false, .bool false, undef, .bool false, .bool true, .bool true, .string S, .bool mo0, .bool mo0, .bool false, .func (.func 109) #[] #[.pointer (some ⟨w4.heap.size + 1, 0, none⟩)], .agg #[.int .i64 t.run, .int .i64 t.lvl], sv (cs t.code), undef, undef, undef, undef, undef, undef, undef, undef, undef, undef, undef, undef, undef, undef, undef, undef, undef, undef, undef, undef, undef, undef, undef, undef, undef], defers := [] })
    (fun t a' => fun s A C row ⟨q, h0, h1, h2⟩ hg hr => ⟨q, h0, Own.from (obj_own (β := Unit) q (.cells #[.int .i64 t.run, .int .i64 t.lvl] 69 (0, 0)) rfl) _ () A C row h1 hg hr, h2⟩)
    ?assign ?body ?done ?stop
  case assign =>
    rintro l pre t V K sV hl ⟨h, h0⟩ hK
    dsimp only [encT] at *
    gi_wp2
    have hb : Below V.heap.size V (V.alloc (.cells #[.int .i64 t.run, .int .i64 t.lvl] 69)) := (Below.refl _ V).alloc (Nat.le_refl _) _
    exact hK _ _ ((KeepsOthers.alloc _ _).from _) (kpT_below hb) ⟨h, h0.below hb⟩ ⟨V.heap.size, by omega, heap_alloc_new V _, rfl⟩
  case body =>
    rintro l2 pre t a' V hl ⟨r2, hr2⟩ ⟨hne, h0⟩ ⟨q, hq0, hq, rfl⟩ hlt
    have HSM := Lib.hid (fun V => HX2.out (cs t.code) V)
    have s0' := h0.s.cell
    have hcl : (cs t.code).length = t.code.length := cs_len _
    have hrw : w4.heap.size + 1 = Bm + 1 := by rw [HBM.out]
    have hrw0 : w4.heap.size = Bm := HBM.out
    rw [hrw, hrw0, HBS.out]
    obtain ⟨n, hn⟩ : ∃ n, t.code.length = n := ⟨_, rfl⟩
    obtain ⟨C, hC⟩ : ∃ C : ByteArray, sv (cs t.code) = .string C := ⟨_, rfl⟩
    have hCz : C.size = n := by
      unfold sv at hC
      injection hC with h
      rw [← h, ba_size, hcl, hn]
    have HD := Lib.hid h0
    have HNE := Lib.hid hne
    have HQ := Lib.hid hq
    have HCN := Lib.hid hn
    have hSz := HXL.out
    obtain ⟨Z, hZ⟩ : ∃ Z, x.length = Z := ⟨_, rfl⟩
    rw [hZ] at hSz
    have HZ := Lib.hid hZ
    have ql := (Array.getElem?_eq_some_iff.1 hq).1
    have HQL := Lib.hid ql
    have HQQ : Hid (Bm < q) := Lib.hid (by omega)
    have HL2 := Lib.hid hl
    clear hl
    clear hne hr2 hlt hrw hrw0 h0 y0 F0 hn hcl hq ql hZ f0
    rw [hC] at HSM ⊢
    by_cases hs : sameB x (cs t.code) = true
    · rw [hs] at HSM
      have HS1 := Lib.hid hs
      by_cases hl : n < Z
      · have hel : ∀ h : n < S.size, S[n]'h = x.getD n 0 := by
          intro h
          have e := HSH.out
          subst e
          have h2 : n < x.length := h
          rw [List.getD_eq_getElem?_getD, List.getElem?_eq_getElem h2]
          rfl
        have hl2 : ¬ (Z : Int) ≤ (n : Int) := by omega
        have hi0 : (n : Int) < (Z : Int) := by omega
        have hz20 : Z ≤ 20 := by rw [← HZ.out]; exact HLX.out
        have hlt : Hid (t.code.length < x.length) := Lib.hid (by rw [HCN.out, HZ.out]; exact hl)
        obtain ⟨X, hX⟩ : ∃ X : Int, (t.run : Int) = X := ⟨_, rfl⟩
        obtain ⟨Y, hY⟩ : ∃ X : Int, (t.lvl : Int) = X := ⟨_, rfl⟩
        rw [hX, hY] at HQ
        rw [hX, hY]
        have HXX := Lib.hid hX
        have hcast : ((n + 1 : Nat) : Int) = (n : Int) + 1 := by omega
        have HLV : Hid (lvS x t = if x.getD n 0 = 49 then wrap64 (-Y) else Y) := Lib.hid (by unfold lvS; rw [HCN.out, hY])
        have HCAST := Lib.hid hcast
        clear hX hY hcast hs bb b0
        by_cases hc : x.getD n 0 = 49
        · rw [if_pos hc] at HLV
          rw [hc] at hel
          clear hc
          obtain ⟨Y', hY'⟩ : ∃ Y', wrap64 (-Y) = Y' := ⟨_, rfl⟩
          rw [hY'] at HLV
          gi_wp2_with (refine ⟨trivial, ?_⟩; first
          | (gi_at_call 86; refine (CallsIn.inRound l2 (callsIn_wide.2 (HSM.out _))).mono ?_; rintro e w5 ⟨rfl, h5⟩; have D5 := HD.out.below h5; have k5 := KpU.below (B := Bm + 1) (l := l2) h5; have kf5 := keeps_below (B := W0.heap.size) h5; have q5 := (h5.block q HQL.out).trans HQ.out; have s5 := D5.s.cell; have q0 : w5.cell? ⟨q, 0, none⟩ = some (.int .i64 X) := cell_row q5 (i := 0) rfl; have q1 : w5.cell? ⟨q, 1, none⟩ = some (.int .i64 Y) := cell_row q5 (i := 1) rfl; have f1 := frozen_of_row q5 1; have Q5 := Lib.hid q5; have P6 := Lib.hid (pair_set (W0 := W0.heap.size) (l := l2) HD.out HQ.out h5 HQQ.out Y'); obtain ⟨w6, h6⟩ : ∃ w6, w5.setCell ⟨q, 1, none⟩ (.int .i64 Y') = w6 := ⟨_, rfl⟩; rw [h6] at P6; have q60 : w6.cell? ⟨q, 0, none⟩ = some (.int .i64 X) := cell_row P6.out.1 (i := 0) rfl; have q61 : w6.cell? ⟨q, 1, none⟩ = some (.int .i64 Y') := cell_row P6.out.1 (i := 1) rfl; have F1 := Lib.hid (be_hit0 HT.out HNE.out P6.out.2.1 P6.out.2.2.1 P6.out.2.2.2 HS1.out hlt.out HLV.out.symm (nn := (n : Int) + 1) (by rw [HCN.out, HCAST.out])); rw [HXX.out] at F1; obtain ⟨r0, r1, x0, x1, x2, c0, c1, c2, d0, d1⟩ := F1.out.1; clear D5 k5 kf5 q5 h5)
          | (go_at_K))
          have G := F1.out.2
          simp only [set5] at G
          exact ⟨G.1, G.2.1, rfl, G.2.2.2⟩
        · rw [if_neg hc] at HLV
          obtain ⟨ch, hch⟩ : ∃ c, x.getD n 0 = c := ⟨_, rfl⟩
          rw [hch] at hel hc
          have hc2 : ((ch.toNat : Int) == 49) = false := by
            rw [beq_eq_false_iff_ne]
            intro e
            exact hc (UInt8.toNat_inj.1 (by have : (49 : UInt8).toNat = 49 := rfl; omega))
          clear hc hch
          gi_wp2_with (refine ⟨trivial, ?_⟩; first
          | (gi_at_call 86; refine (CallsIn.inRound l2 (callsIn_wide.2 (HSM.out _))).mono ?_; rintro e w5 ⟨rfl, h5⟩; have D5 := HD.out.below h5; have k5 := KpU.below (B := Bm + 1) (l := l2) h5; have kf5 := keeps_below (B := W0.heap.size) h5; have q5 := (h5.block q HQL.out).trans HQ.out; have s5 := D5.s.cell; have q0 : w5.cell? ⟨q, 0, none⟩ = some (.int .i64 X) := cell_row q5 (i := 0) rfl; have q1 : w5.cell? ⟨q, 1, none⟩ = some (.int .i64 Y) := cell_row q5 (i := 1) rfl; have F1 := Lib.hid (be_hit0 HT.out HNE.out D5 k5 kf5 HS1.out hlt.out HLV.out.symm (nn := (n : Int) + 1) (by rw [HCN.out, HCAST.out])); rw [HXX.out] at F1; obtain ⟨r0, r1, x0, x1, x2, c0, c1, c2, d0, d1⟩ := F1.out.1; clear D5 k5 kf5 q5 h5)
          | (go_at_K))
          have G := F1.out.2
          simp only [set5] at G
          exact ⟨G.1, G.2.1, rfl, G.2.2.2⟩
      · have hl2 : (Z : Int) ≤ (n : Int) := by omega
        have hlt : Hid (x.length ≤ t.code.length) := Lib.hid (by rw [HCN.out, HZ.out]; omega)
        clear hs bb b0 hl
        gi_wp2_with (refine ⟨trivial, ?_⟩; first
          | (gi_at_call 86; refine (CallsIn.inRound l2 (callsIn_wide.2 (HSM.out _))).mono ?_; rintro e w5 ⟨rfl, h5⟩; have F1 := Lib.hid (be_more (W0 := W0.heap.size) (l := l2) HT.out HNE.out HD.out h5 HS1.out hlt.out); have D5 := HD.out.below h5; have s5 := D5.s.cell; have m5 := D5.m.cell; have m6 := D5.m.frozen; clear h5 D5)
          | (go_at_K))
        exact ⟨F1.out.1, F1.out.2.1, F1.out.2.2⟩
    · rw [Bool.eq_false_iff.2 hs] at HSM
      have HS1 := Lib.hid (Bool.eq_false_iff.2 hs)
      clear hs hSz hCz bb b0 hq0
      gi_wp2_with (refine ⟨trivial, ?_⟩; first
          | (gi_at_call 86; refine (CallsIn.inRound l2 (callsIn_wide.2 (HSM.out _))).mono ?_; rintro e w5 ⟨rfl, h5⟩; have F1 := Lib.hid (be_skip (W0 := W0.heap.size) (l := l2) HT.out HNE.out HD.out h5 HS1.out); have s5 := F1.out.2.2.2.s.cell; clear h5)
          | (go_at_K))
      exact ⟨F1.out.1, F1.out.2.1, F1.out.2.2⟩
  case stop =>
    rintro Dd c pre V hD hSp ⟨rfl, t, hf, h0⟩ hK
    have hsx : getX x false (sameB x [49, 48]) = .tuple #[prV t.run (lvS x t), .bool false, .int .i64 (t.code.length + 1 : Nat), .int .i64 0] := by unfold getX; rw [find_pre hSp hf]
    have HX := Lib.hid hsx
    have hc : w.heap.size + 4 ≤ Dd := by omega
    clear hsx hf hSp HT
    gi_wp2
    refine ⟨by simp, .inl ⟨_, _, rfl, run_takeDeferred hK, ?_⟩⟩
    have G := h0.grown (grownBy_putObj' V Dd (.deferred none)) (fun x e => by cases e; exact hc)
    exact ⟨_, results_get rfl _ rfl rfl rfl rfl G, by first | rw [HX.out] | rw [← hmo0, HX.out], G.bel⟩
  case done =>
    rintro Dd ys V hD hys ⟨hne, h0⟩ hK
    have hys2 : ys = tab false := hys
    rw [hys2] at hne h0
    have hsx : getX x false (sameB x [49, 48]) = .tuple #[prV 0 0, .bool false, .int .i64 0, .int .i64 (if mo0 || (tab false).any (nearB x) then 5 else 7)] := by
      unfold getX
      rw [List.find?_eq_none.2 (fun y hy => by rw [hne y hy]; simp), hmo0]
    have HX := Lib.hid hsx
    have hc : w.heap.size + 4 ≤ Dd := by omega
    have HC0 := Lib.hid hc
    obtain ⟨mm, hmm⟩ : ∃ m, (mo0 || (tab false).any (nearB x)) = m := ⟨_, rfl⟩
    rw [hmm] at h0 HX
    have m5 := h0.m.cell
    obtain ⟨r0, r1, x0, x1, x2, c0, c1, c2, d0, d1⟩ := h0.g.facts
    have H0 := Lib.hid h0
    have HK := Lib.hid hK
    clear h0 hK hne hsx HT hys hys2 hmm y0 F0 hc hD b0 f0 bb
    rw [HBM.out]
    cases mm
    · gi_wp2
      have G := H0.out.g.set 0 0 false 0 7
      have hK2 := (keeps5 V w.heap.size 0 0 false 0 7).same Dd _ HK.out rfl
      refine ⟨by simp, .inl ⟨_, _, rfl, run_takeDeferred hK2, ?_⟩⟩
      have G2 := G.grown (grownBy_putObj' _ Dd (.deferred none)) (fun x e => by cases e; exact HC0.out)
      exact ⟨_, results_get rfl _ rfl rfl rfl rfl G2, by (first | rw [HX.out] | rw [← hmo0, HX.out]); rfl, G2.bel⟩
    · gi_wp2
      have G := H0.out.g.set 0 0 false 0 5
      have hK2 := (keeps5 V w.heap.size 0 0 false 0 5).same Dd _ HK.out rfl
      refine ⟨by simp, .inl ⟨_, _, rfl, run_takeDeferred hK2, ?_⟩⟩
      have G2 := G.grown (grownBy_putObj' _ Dd (.deferred none)) (fun x e => by cases e; exact HC0.out)
      exact ⟨_, results_get rfl _ rfl rfl rfl rfl G2, by (first | rw [HX.out] | rw [← hmo0, HX.out]); rfl, G2.bel⟩
end
end Cf
end Go.Proofs.YtpibeocngkjolaaGreatDoor

namespace Go.Proofs.YtpibeocngkjolaaGreatDoor
open Go.RowKit Go.Shelf
set_option linter.unusedSimpArgs false
set_option linter.unusedVariables false
namespace Cf
/-- what Get tells: run, level, is it the end, bits, cause. -/
structure G5 where
  (r l : Int) (en : Bool) (n e : Int)
def G5.val (g : G5) : Value := .tuple #[prV g.r g.l, .bool g.en, .int .i64 g.n, .int .i64 g.e]
def gErr (e : Int) : G5 := ⟨0, 0, false, 0, e⟩
def tabG (first : Bool) (x : List UInt8) : G5 := match (tab first).find? (hitB x) with
  | some e => ⟨e.run, lvS x e, false, (e.code.length + 1 : Nat), 0⟩
  | none => gErr (if (!first && sameB x [49, 48]) || (tab first).any (nearB x) then 5 else 7)
def escG (L : List Bool) : G5 := if L.length < 20 then gErr 5 else if lv8 L = 0 ∨ lv8 L = -128 then gErr 10 else ⟨numL 0 ((L.take 12).drop 6), lv8 L, false, 20, 0⟩
def getB (first : Bool) (L : List Bool) : G5 :=
  if sameB (cs L) escB = true then escG L else if first = false ∧ Lib.hasPrefix (cs L) [49, 48] = true then ⟨0, 0, true, 2, 0⟩ else tabG first (cs L)
def getF (f : Nat → Int) (N : Nat) (p : Int) (first : Bool) : G5 := if p < 0 then gErr 3 else if 8 * (N : Int) < p then gErr 5 else getB first (seenL f p.toNat (seenN N p.toNat))
theorem getX_tab (x : List UInt8) (first : Bool) : getX x first (!first && sameB x [49, 48]) = (tabG first x).val := by
  unfold getX tabG
  cases (tab first).find? (hitB x) <;> rfl
theorem hasPrefix_ex {x y : List UInt8} (h : Lib.hasPrefix x y = true) : ∃ z, x = y ++ z := by
  unfold Lib.hasPrefix at h
  have h2 : y <+: x := by simpa using h
  obtain ⟨z, rfl⟩ := h2
  exact ⟨z, rfl⟩
theorem Get_any (v : Value) (N : Nat) (f : Nat → Int) (p : Int) (first : Bool) (w : World) (hN : N ≤ 1000000) (hs : Sl .u8 w v N f) (hb : ∀ j, j < N → 0 ≤ f j ∧ f j ≤ 255) (hT : Tabs w) :
    Calls Tryz.prog 63 #[v, .int .i64 p, .bool first] w fun e w' => e = .returned (getF f N p first).val ∧ Below w.heap.size w w' := by
  unfold getF
  by_cases h0 : p < 0
  · rw [if_pos h0]
    exact Get_low v p first w h0
  rw [if_neg h0]
  have HS : Hid (∀ W, Below w.heap.size w W → Calls Tryz.prog 85 #[v, .int .i64 ((p.toNat : Nat) : Int)] W fun e w' => e = .returned (sv (cs (seenL f p.toNat (seenN N p.toNat)))) ∧ Below W.heap.size W w') ∨ 8 * (N : Int) < p := by
    by_cases h1 : 8 * (N : Int) < p
    · exact .inr h1
    · exact .inl (Lib.hid fun W hW => seen_any v N f p.toNat W hN (hs.below hW) hb (by omega))
  obtain ⟨a, c, rfl, _, _, _⟩ := hs
  by_cases h1 : 8 * (N : Int) < p
  · rw [if_pos h1]
    exact Get_high a N c p first w hN h1
  rw [if_neg h1]
  have HS := HS.resolve_right h1
  obtain ⟨q, hq⟩ : ∃ q : Nat, p.toNat = q := ⟨_, rfl⟩
  obtain rfl : p = (q : Int) := by omega
  rw [hq] at HS ⊢
  have hq8 : q ≤ 8 * N := by omega
  have hL : (seenL f q (seenN N q)).length ≤ 20 := by simp [seenL, seenN]; omega
  generalize seenL f q (seenN N q) = L at *
  have hx : (cs L).length ≤ 20 := by rw [cs_len]; exact hL
  unfold getB
  by_cases he : sameB (cs L) escB = true
  · rw [if_pos he]
    unfold escG
    by_cases hl : L.length < 20
    · rw [if_pos hl]
      exact Get_more a N c q f first w (cs L) hN hq8 hT HS (by rw [cs_len]; exact hl) he
    · rw [if_neg hl]
      refine (Get_esc a N c q f first w L hN hq8 hT HS (by omega) he).mono fun e w' ⟨h, hb⟩ => ⟨?_, hb⟩
      rw [h]
      by_cases hc : lv8 L = 0 ∨ lv8 L = -128
      · rw [if_pos hc, if_pos hc]; rfl
      · rw [if_neg hc, if_neg hc]; rfl
  rw [if_neg he]
  have he2 := Bool.eq_false_iff.2 he
  cases first with
  | true =>
    rw [if_neg (by simp), ← getX_tab]
    exact Get_tab1 a N c q w (cs L) hN hq8 hT HS he2 hx
  | false =>
    by_cases hp : Lib.hasPrefix (cs L) [49, 48] = true
    · rw [if_pos ⟨rfl, hp⟩]
      exact Get_end a N c q f w (cs L) hN hq8 hT HS he2 (hasPrefix_ex hp)
    · rw [if_neg (fun h => hp h.2), ← getX_tab]
      exact Get_tab0 a N c q w (cs L) hN hq8 hT HS he2 hx (Bool.eq_false_iff.2 hp)
end Cf
end Go.Proofs.YtpibeocngkjolaaGreatDoor
