/- coeff.rows; coeff.table: the iterator. -/
import Derived.Test.YtpibeocngkjolaaGreatDoorMgChP
import Derived.Test.YtpibeocngkjolaaGreatDoorMgDpN
import Derived.Test.YtpibeocngkjolaaGreatDoorShelf
set_option linter.unusedVariables false
set_option linter.unusedSimpArgs false

namespace Go.Proofs.YtpibeocngkjolaaGreatDoor
open Go.RowKit Go.Shelf
attribute [local go_sem] Oper.semAt_some
set_option linter.unusedSimpArgs false
set_option linter.unusedVariables false
namespace Cf
def rowsA : Array Value := ((List.range 27).map fun k => sv (rowS k)).toArray
section
set_option maxRecDepth 100000
set_option maxHeartbeats 4000000
set_option linter.unusedVariables false
theorem rows_any (w : World) : Calls Tryz.prog 110 #[] w fun e w' => e = .returned (.slice (some ⟨w.heap.size, 0, none⟩) 27 27) ∧ w' = w.alloc (.cells rowsA 9) := by
  go_enter Tryz.func110, Tryz.ntmps110
  go_wp2
  go_ret
  exact ⟨rfl, by rfl⟩
theorem tab_below {w w' : World} {nm : String} {k : IntKind} {zs : List Int} (h : Lib.TabIs Tryz.prog w nm k zs) (hb : Below w.heap.size w w') : Lib.TabIs Tryz.prog w' nm k zs := by
  unfold Lib.TabIs World.var? at h ⊢
  cases hg : Tryz.prog.globalNamed nm with
  | none => rw [hg] at h; cases h
  | some g =>
    rw [hg] at h
    simp only [Option.bind_some] at h ⊢
    have hlt : g < w.heap.size := by
      rcases Nat.lt_or_ge g w.heap.size with h' | h'
      · exact h'
      · rw [Array.getElem?_eq_none (by omega)] at h; cases h
    rw [hb.block g hlt]
    exact h
theorem tab_putObj {w : World} {nm : String} {k : IntKind} {zs : List Int} {l : Nat} {o o' : Obj} (h : Lib.TabIs Tryz.prog w nm k zs) (hl : w.heap[l]? = some o) (ho : o.isCells = false) : Lib.TabIs Tryz.prog (w.putObj l o') nm k zs := by
  unfold Lib.TabIs World.var? at h ⊢
  cases hg : Tryz.prog.globalNamed nm with
  | none => rw [hg] at h; cases h
  | some g =>
    rw [hg] at h
    simp only [Option.bind_some] at h ⊢
    have hne : g ≠ l := by
      rintro rfl
      rw [hl] at h
      cases o with
      | cells _ _ _ => cases ho
      | _ => cases h
    rw [World.putObj_heap_other hne]
    exact h
/-- what the library's tables hold. -/
structure Tabs (w : World) : Prop where
  sp : Lib.TabIs Tryz.prog w "strings.asciiSpace" .u8 Lib.asciiSpaceTab
  bj : w.cell? ⟨6, 1, none⟩ = some (.int .u8 1)
theorem Tabs.below {w w' : World} (h : Tabs w) (hb : Below w.heap.size w w') : Tabs w' := ⟨tab_below h.sp hb, (hb.cell (p := ⟨6, 1, none⟩) (World.block_lt_of_cell? _ _ h.bj)).trans h.bj⟩
theorem Tabs.putObj {w : World} {l : Nat} {o o' : Obj} (h : Tabs w) (hl : w.heap[l]? = some o) (ho : o.isCells = false) : Tabs (w.putObj l o') := ⟨tab_putObj h.sp hl ho, by
  have hb := h.bj
  have hne : 6 ≠ l := by
    rintro e
    rw [← e] at hl
    simp only [World.cell?, hl] at hb
    cases o with
    | cells _ _ _ => cases ho
    | _ => simp at hb
  simp only [World.cell?, World.putObj_heap_other hne] at hb ⊢
  exact hb⟩
/-- no cells of a Pair. -/
def NoPair (o : Obj) : Prop := ∀ vs f, o ≠ .cells vs 69 f
theorem noPair_of {vs : Array Value} {t : TypeId} {f : Nat × Nat} (h : t ≠ 69) : NoPair (.cells vs t f) := fun vs2 f2 e => by
  injection e with _ h2 _
  exact h h2
/-- what a round keeps: what lies from B on, but the loop's own record and pairs, and the tables. -/
def KpT (B l : Nat) (W W' : World) : Prop := W.heap.size ≤ W'.heap.size ∧ (∀ i, B ≤ i → i ≠ l → ∀ o : Obj, W.heap[i]? = some o → NoPair o → W'.heap[i]? = some o) ∧ (Tabs W → Tabs W')
theorem kpT_t {B l : Nat} {X Y Z : World} (h : KpT B l X Y) (k : KpT B l Y Z) : KpT B l X Z := ⟨Nat.le_trans h.1 k.1, fun i hi hl o ho hn => k.2.1 i hi hl o (h.2.1 i hi hl o ho hn) hn, fun t => k.2.2 (h.2.2 t)⟩
theorem kpT_l {B : Nat} (l : Nat) (W : World) (o o' : Obj) (hl : W.heap[l]? = some o) (ho : o.isCells = false) : KpT B l W (W.putObj l o') := ⟨by simp, fun i _ hl o2 h2 _ => (World.putObj_heap_other (by omega)).trans h2, fun t => t.putObj hl ho⟩
theorem kpT_refl {B l : Nat} (V : World) : KpT B l V V := ⟨Nat.le_refl _, fun _ _ _ _ h _ => h, fun t => t⟩
def encT (x : Ent) : Array Value := #[.agg #[.int .i64 x.run, .int .i64 x.lvl], sv (cs x.code)]
end
end Cf
end Go.Proofs.YtpibeocngkjolaaGreatDoor
