/- PaintLays: what the pictures are, behind each call. -/
import Derived.Test.YtkeempljogjceaaPaA
import Derived.Test.YtkeempljogjceaaScn
namespace Go.Proofs.Ytkeempljogjceaa
open Go.RowKit
theorem Sl.grown {k : IntKind} {w w' : World} {q : Option Addr} {n d : Nat} {f : Nat → Int} {row : Option Nat} (h : Sl k w (.slice q n d) n f) (hg : w.grownBy w' row) (hne : 0 < n → ∀ x, q = some x → some x.block ≠ row) : Sl k w' (.slice q n d) n f := by
  obtain ⟨a, c, e, h1, h2, h3⟩ := h
  cases e
  refine ⟨_, _, rfl, h1, h2, ?_⟩
  rcases h3 with h3 | ⟨b, o, e, h4, h5⟩
  · exact .inl h3
  · by_cases hn : 0 < n
    · exact .inr ⟨b, o, e, Nat.lt_of_lt_of_le h4 hg.size, h5.grown hg (hne hn _ e)⟩
    · exact .inr ⟨b, o, e, Nat.lt_of_lt_of_le h4 hg.size, fun i hi => by omega⟩
namespace Pa
open Fr Pt

structure LC where
  (n g a : Int) (sp gi gf gL gM gS cL cM cS N N' M' M : Nat) (q : Option Addr) (d : Nat) (s F2 : Nat → Int)
structure LC.ok (c : LC) (W : World) : Prop where
  sp : W.heap.size ≤ c.sp
  gi : c.sp < c.gi
  gf : c.gi < c.gf
  gL : c.gf < c.gL
  gM : c.gL < c.gM
  gS : c.gM < c.gS
  n1 : 0 < c.N' ∧ c.N' ≤ c.N
  n2 : 0 < c.M' ∧ c.M' ≤ c.N
  n3 : c.N ≤ 152064
  n4 : (c.N' : Int) = zV c.n → c.N = c.N'
  m : c.M ≤ 80
  cL : c.N' + 4 ≤ c.cL ∧ c.cL ≤ maxLen
  cM : c.M' + 4 ≤ c.cM ∧ c.cM ≤ maxLen
  cS : c.M + 4 ≤ c.cS ∧ c.cS ≤ maxLen
  q : 0 < c.M → ∀ x, c.q = some x → x.block < W.heap.size
/-- the worlds between the calls: mine reads fm, the picture itself reads ft. -/
structure LS (c : LC) (W w : World) (fm ft : Nat → Int) : Prop where
  spot : SpotAt w c.sp c.n c.g c.a
  mine : Arr w .u8 c.gL (c.N' + 4) fm
  to : Arr w .u8 c.gi c.N ft
  other : Arr w .u8 c.gM (c.M' + 4) (lentF c.M' c.F2)
  from' : Arr w .u8 c.gf c.N c.F2
  lent : Arr w .u8 c.gS (c.M + 4) (lentF c.M c.s)
  arg : Sl .u8 w (.slice c.q c.M c.d) c.M c.s
  bel : Below W.heap.size W w
abbrev LC.sv (c : LC) : Value := .agg #[.int .i64 c.n, .int .i64 c.g, .int .i64 c.a]
theorem lent_sl {w : World} {g c n : Nat} {F : Nat → Int} (h : Arr w .u8 g (n + 4) (lentF n F)) (hc : n + 4 ≤ c) (hm : c ≤ maxLen) : Sl .u8 w (.slice (some ⟨g, 0, none⟩) n c) n F :=
  Lent.sl (h.lt (by omega)) hc hm h
theorem part_sl {w : World} {g n N : Nat} {F : Nat → Int} (h : Arr w .u8 g N F) (h0 : 0 < N) (hn : n ≤ N) (hm : N ≤ maxLen) : Sl .u8 w (.slice (some ⟨g, 0, none⟩) n N) n F :=
  ⟨_, N, rfl, hn, hm, .inr ⟨g, 0, rfl, h.lt h0, fun i hi => h.ints i (by omega)⟩⟩
section
variable {c : LC} {W w : World} {fm ft : Nat → Int}
theorem LS.below {w' : World} (h : LS c W w fm ft) (ok : c.ok W) (hb : Below w.heap.size w w') : LS c W w' fm ft where
  spot := h.spot.kept (grown_of_below hb none) (by simp)
  mine := h.mine.below hb (h.mine.lt (by omega))
  to := h.to.below hb (h.to.lt (by have := ok.n1; omega))
  other := h.other.below hb (h.other.lt (by omega))
  from' := h.from'.below hb (h.from'.lt (by have := ok.n1; omega))
  lent := h.lent.below hb (h.lent.lt (by omega))
  arg := h.arg.below hb
  bel := chain h.bel hb
theorem LS.toMine {w' : World} {f' : Nat → Int} (h : LS c W w fm ft) (ok : c.ok W) (hA : Arr w' .u8 c.gL (c.N' + 4) f') (hg : w.grownBy w' (some c.gL)) : LS c W w' f' ft := by
  have k1 := ok.sp; have k2 := ok.gi; have k3 := ok.gf; have k4 := ok.gL; have k5 := ok.gM; have k6 := ok.gS
  exact {
    spot := h.spot.kept hg (fun e => by have := Option.some.inj e; omega)
    mine := hA
    to := h.to.grown hg (fun e => by have := Option.some.inj e; omega)
    other := h.other.grown hg (fun e => by have := Option.some.inj e; omega)
    from' := h.from'.grown hg (fun e => by have := Option.some.inj e; omega)
    lent := h.lent.grown hg (fun e => by have := Option.some.inj e; omega)
    arg := h.arg.grown hg (fun h0 x e e2 => by have := ok.q h0 x e; have := Option.some.inj e2; omega)
    bel := h.bel.grown hg h.bel.size (fun b e => by have := Option.some.inj e; omega) }
theorem LS.toTo {w' : World} {f' : Nat → Int} (h : LS c W w fm ft) (ok : c.ok W) (hA : Arr w' .u8 c.gi c.N f') (hg : w.grownBy w' (some c.gi)) : LS c W w' fm f' := by
  have k1 := ok.sp; have k2 := ok.gi; have k3 := ok.gf; have k4 := ok.gL; have k5 := ok.gM; have k6 := ok.gS
  exact {
    spot := h.spot.kept hg (fun e => by have := Option.some.inj e; omega)
    mine := h.mine.grown hg (fun e => by have := Option.some.inj e; omega)
    to := hA
    other := h.other.grown hg (fun e => by have := Option.some.inj e; omega)
    from' := h.from'.grown hg (fun e => by have := Option.some.inj e; omega)
    lent := h.lent.grown hg (fun e => by have := Option.some.inj e; omega)
    arg := h.arg.grown hg (fun h0 x e e2 => by have := ok.q h0 x e; have := Option.some.inj e2; omega)
    bel := h.bel.grown hg h.bel.size (fun b e => by have := Option.some.inj e; omega) }
theorem LS.lay (h : LS c W w fm ft) (ok : c.ok W) (k : Int) : Calls Try.prog 28 #[.slice (some ⟨c.gL, 0, none⟩) c.N' c.cL, .agg #[.int .i64 c.n, .int .i64 c.g, .int .i64 c.a], .int .i64 k, .slice (some ⟨c.gS, 0, none⟩) c.M c.cS] w
    fun e w' => e = .returned (.int .i64 (layE c.n c.g c.a k c.N' c.M)) ∧ LS c W w' (layG c.n c.g c.a k c.N' c.M c.s fm) ft := by
  have k5 := ok.gM; have k6 := ok.gS; have k7 := ok.cL
  refine (Lay_any c.gL c.N' (c.N' + 4) c.cL _ c.M c.cS fm c.s c.n c.g c.a k w h.mine (by omega) (by omega) (by omega) (lent_sl h.lent ok.cS.1 ok.cS.2) (fun _ x e => by cases e; show c.gS ≠ c.gL; omega)).mono ?_
  rintro e w' ⟨rfl, h1, h2⟩
  exact ⟨rfl, h.toMine ok h1 h2⟩
theorem LS.rlay (h : LS c W w fm ft) (ok : c.ok W) (k : Int) : Calls Try.prog 29 #[.slice (some ⟨c.gi, 0, none⟩) c.N' c.N, .agg #[.int .i64 c.n, .int .i64 c.g, .int .i64 c.a], .int .i64 k, .slice c.q c.M c.d] w
    fun e w' => e = .returned (.int .i64 (layE c.n c.g c.a k c.N' c.M)) ∧ LS c W w' fm (layG c.n c.g c.a k c.N' c.M c.s ft) := by
  have k1 := ok.sp; have k2 := ok.gi; have k3 := ok.n1
  refine (rLay_any c.gi c.N' c.N c.N c.q c.M c.d ft c.s c.n c.g c.a k w h.to (by omega) (by omega) h.arg (fun h0 x e => by have := ok.q h0 x e; omega) ok.n4).mono ?_
  rintro e w' ⟨rfl, h1, h2⟩
  exact ⟨rfl, h.toTo ok h1 h2⟩
theorem LS.copy (h : LS c W w fm ft) (ok : c.ok W) : Calls Try.prog 12 #[.slice (some ⟨c.gL, 0, none⟩) c.N' c.cL, .slice (some ⟨c.gM, 0, none⟩) c.M' c.cM, .agg #[.int .i64 c.n, .int .i64 c.g, .int .i64 c.a]] w
    fun e w' => e = .returned (.int .i64 (copE c.n c.g c.a c.N' c.M')) ∧ LS c W w' (copG c.n c.g c.a c.N' c.M' c.F2 fm) ft := by
  have k5 := ok.gM; have k6 := ok.gS; have k7 := ok.cL
  refine (Copy_any c.gL c.N' (c.N' + 4) c.cL _ c.M' c.cM fm c.F2 c.n c.g c.a w h.mine (by omega) (by omega) (by omega) (lent_sl h.other ok.cM.1 ok.cM.2) (fun _ x e => by cases e; show c.gM ≠ c.gL; omega)).mono ?_
  rintro e w' ⟨rfl, h1, h2⟩
  exact ⟨rfl, h.toMine ok h1 h2⟩
theorem LS.rcopy (h : LS c W w fm ft) (ok : c.ok W) : Calls Try.prog 30 #[.slice (some ⟨c.gi, 0, none⟩) c.N' c.N, .slice (some ⟨c.gf, 0, none⟩) c.M' c.N, .agg #[.int .i64 c.n, .int .i64 c.g, .int .i64 c.a]] w
    fun e w' => e = .returned (.int .i64 (copE c.n c.g c.a c.N' c.M')) ∧ LS c W w' fm (copG c.n c.g c.a c.N' c.M' c.F2 ft) := by
  have k2 := ok.gf; have k3 := ok.n1; have k4 := ok.n2; have k5 := ok.n3
  refine (rCopy_any c.gi c.N' c.N c.N _ c.M' c.N ft c.F2 c.n c.g c.a w h.to (by omega) (part_sl h.from' (by omega) k4.2 (by unfold maxLen; omega)) (fun _ x e => by cases e; show c.gf ≠ c.gi; omega) ok.n4).mono ?_
  rintro e w' ⟨rfl, h1, h2⟩
  exact ⟨rfl, h.toTo ok h1 h2⟩
theorem LS.keptMine {f : Nat → Int} (h : LS c W w (lentF c.N' f) f) (ok : c.ok W) : Calls Try.prog 23 #[.slice (some ⟨c.gL, 0, none⟩) c.N' c.cL, .slice (some ⟨c.gi, 0, none⟩) c.N' c.N] w
    fun e w' => e = .returned (.bool true) ∧ LS c W w' (lentF c.N' f) f := by
  have k3 := ok.n1; have k5 := ok.n3
  refine (KeptBytes_row c.gL c.cL c.N' _ c.N f w (by omega) ok.cL.1 ok.cL.2 h.mine (part_sl h.to (by omega) k3.2 (by unfold maxLen; omega))).mono ?_
  rintro e w' ⟨rfl, h1⟩
  exact ⟨rfl, h.below ok h1⟩
theorem LS.keptOther (h : LS c W w fm ft) (ok : c.ok W) : Calls Try.prog 23 #[.slice (some ⟨c.gM, 0, none⟩) c.M' c.cM, .slice (some ⟨c.gf, 0, none⟩) c.M' c.N] w
    fun e w' => e = .returned (.bool true) ∧ LS c W w' fm ft := by
  have k3 := ok.n1; have k4 := ok.n2; have k5 := ok.n3
  refine (KeptBytes_row c.gM c.cM c.M' _ c.N c.F2 w (by omega) ok.cM.1 ok.cM.2 h.other (part_sl h.from' (by omega) k4.2 (by unfold maxLen; omega))).mono ?_
  rintro e w' ⟨rfl, h1⟩
  exact ⟨rfl, h.below ok h1⟩
theorem LS.keptArg (h : LS c W w fm ft) (ok : c.ok W) : Calls Try.prog 23 #[.slice (some ⟨c.gS, 0, none⟩) c.M c.cS, .slice c.q c.M c.d] w
    fun e w' => e = .returned (.bool true) ∧ LS c W w' fm ft := by
  have k3 := ok.m
  refine (KeptBytes_row c.gS c.cS c.M _ c.d c.s w (by omega) ok.cS.1 ok.cS.2 h.lent h.arg).mono ?_
  rintro e w' ⟨rfl, h1⟩
  exact ⟨rfl, h.below ok h1⟩
end
end Pa
end Go.Proofs.Ytkeempljogjceaa
