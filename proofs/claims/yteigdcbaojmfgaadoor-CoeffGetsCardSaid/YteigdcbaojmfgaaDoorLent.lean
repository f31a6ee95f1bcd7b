/- LentBytes of any row of bytes. -/
import Derived.Test.YteigdcbaojmfgaaDoorBytesB
namespace Go.Proofs.YteigdcbaojmfgaaDoor
open Go.RowKit
set_option linter.unusedSimpArgs false
set_option linter.unusedVariables false

set_option maxRecDepth 100000 in
theorem LentBytes_empty (a : Addr) (c : Nat) (f : Nat → Int) (w : World) :
    Calls Tryd.prog 10 #[.slice (some a) 0 c] w (Lent w 0 f) := by
  obtain ⟨i0, hi, hz0, hz1, hz2⟩ := info_parts info_byte
  have LL := Lib.hid (lent_list 0 f)
  go_enter Tryd.func10, Tryd.ntmps10
  go_wp2_with (first
    | (at_builtin; (refine wpList_append_own _ rfl (.tmp 4) (.tmp 5) 22 rfl w.heap.size 5 i0 (.int .u8 0) 1 1 Tryd.underlying22 hi hz0 hz1 hz2 rfl (by decide) _ _ _ rfl (World.ownsRow_made w #[] 0 (Nat.le_refl _) (Nat.zero_le _) rfl) a 0 c [] rfl (by simp) (by simp) (by simp) (by unfold maxLen; omega) (by omega) (by simp) ?_); intro v' w1 hown hgr hnil; simp only [Nat.zero_add, List.nil_append] at hown; have hB1 : Below w.heap.size w w1 := ((Below.refl w.heap.size w).alloc (Nat.le_refl _) (.cells #[] 5)).grown hgr (by simp) (fun k hk => by cases hk; exact Nat.le_refl _); have OWN := Lib.hid hown; have HB1 := Lib.hid hB1; have sz := hB1.size; clear hown hgr hnil hB1)
    | (at_builtin; (refine wpList_append_own _ rfl (.tmp 7) (.tmp 8) 22 rfl w.heap.size 5 i0 (.int .u8 0) 1 1 Tryd.underlying22 hi hz0 hz1 hz2 rfl (by decide) _ _ _ rfl (OWN.out.alloc _) ⟨w1.heap.size, 0, none⟩ 4 4 [.int .u8 201, .int .u8 202, .int .u8 203, .int .u8 204] rfl rfl (World.news_of_block (cs := #[.int .u8 201, .int .u8 202, .int .u8 203, .int .u8 204]) (t := 5) (fr := (0, 0)) (heap_alloc_new w1 _)) (by simp [Value.oneCell']) (by unfold maxLen; omega) (by omega) (by simp; omega) ?_); intro v2 w2 hown2 hgr2 hnil2; rw [List.nil_append] at hown2; have LL' : [Value.int .u8 201, .int .u8 202, .int .u8 203, .int .u8 204] = (List.range (0 + 4)).map fun i => Value.int .u8 (lentF 0 f i) := LL.out; rw [LL'] at hown2; have hB2 : Below w.heap.size w w2 := (HB1.out.alloc sz (.cells #[.int .u8 201, .int .u8 202, .int .u8 203, .int .u8 204] 5)).grown hgr2 (by simp; omega) (fun q hq => (OWN.out.lt q hq).1); obtain ⟨g, c', hv, h1, h2, h3, h4, h5⟩ := Arr.of_own hown2 (by omega); subst hv; have HA := Lib.hid h5; have HB := Lib.hid hB2; have nb := fun W => slice_to g 4 c' 0 (by omega) W; clear hown2 hgr2 hnil2 h5 hB2 LL'))
  go_ret
  exact ⟨g, c', rfl, h1, h2, h3, h4, HA.out, HB.out⟩

theorem LentBytes_any (v : Value) (n : Nat) (f : Nat → Int) (w : World) (hn : n ≤ 1000000) (hs : Sl .u8 w v n f) :
    Calls Tryd.prog 10 #[v] w (Lent w n f) := by
  obtain ⟨a, c, rfl, h1, h2, h3⟩ := hs
  rcases h3 with ⟨rfl, h5⟩ | ⟨b, o, rfl, _, h4⟩
  · cases a with
    | none =>
      obtain rfl : c = 0 := h5 rfl
      exact LentBytes_nil f w
    | some a => exact LentBytes_empty a c f w
  · exact LentBytes_row b o c n f w hn h4
theorem lentF_lt {n : Nat} {f : Nat → Int} (i : Nat) (h : i < n) : lentF n f i = f i := by unfold lentF; rw [if_pos h]
theorem Lent.sl {w : World} {g c n : Nat} {f : Nat → Int} (h2 : g < w.heap.size) (h3 : n + 4 ≤ c) (h4 : c ≤ maxLen) (h : Arr w .u8 g (n + 4) (lentF n f)) : Sl .u8 w (.slice (some ⟨g, 0, none⟩) n c) n f :=
  ⟨_, c, rfl, by omega, h4, .inr ⟨g, 0, rfl, h2, fun i hi => by rw [h.ints i (by omega), lentF_lt i hi]⟩⟩
theorem byte_bd {w : World} {a : Option Addr} {len cap : Nat} {zs : List Int} (h : IsRow .u8 w a len cap zs) (i : Nat) : 0 ≤ zs.getD i 0 ∧ zs.getD i 0 ≤ 255 := by
  rw [List.getD_eq_getElem?_getD]
  rcases h with ⟨rfl, rfl, rfl, rfl⟩ | ⟨_, _, _, _, _, _, hw⟩
  · simp
  · by_cases hi : i < zs.length
    · rw [List.getElem?_eq_getElem hi]
      have := hw _ (List.getElem_mem hi)
      have e1 : IntKind.u8.min = 0 := rfl
      have e2 : IntKind.u8.max = 255 := rfl
      simp only [Lit.wf, e1, e2, Bool.and_eq_true, decide_eq_true_eq] at this
      simpa using this
    · rw [List.getElem?_eq_none (by omega)]; simp
end Go.Proofs.YteigdcbaojmfgaaDoor
