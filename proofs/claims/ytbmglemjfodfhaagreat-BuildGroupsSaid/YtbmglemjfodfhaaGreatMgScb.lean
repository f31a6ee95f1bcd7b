/- KeptBytes: what was lent stands, and the room behind it. | LentBytes of any row of bytes. | Scenes and spots made by numbers. | praxinoscopekit.Scene: bytes. -/
import Derived.Test.YtbmglemjfodfhaaGreatMgFr3
import Derived.Test.YtbmglemjfodfhaaGreatMgPa1
import Derived.Test.YtbmglemjfodfhaaGreatMgPick
import Derived.BigRegion
set_option linter.unusedVariables false
set_option linter.unusedSimpArgs false
namespace Go.Proofs.YtbmglemjfodfhaaGreat
open Go.RowKit
theorem slice_mid (g N c l h : Nat) (hl : l < h) (hh : h ≤ c) (w : World) : (Instr.slice 30 (.slice (some ⟨g, 0, none⟩) N c) (some (.int .i64 (l : Int))) (some (.int .i64 (h : Int))) none).run Tryz.prog w = .ok (.slice (some ⟨g, l, none⟩) (h - l) (c - l)) w := by
  have ht : Tryz.prog.underlying 30 = some (.slice (Tryz.prog.elem 30)) := by kernel_rfl
  obtain ⟨i0, hi, hz0, hz1, hz2⟩ := info_parts info_byte
  have he : Tryz.prog.elem 30 = 5 := by kernel_rfl
  rw [run_slice_lh w 30 _ N c ht .i64 .i64 l h (by omega) (by omega) (by omega), he]
  have hs : (sizeOf 5).run Tryz.prog w = .ok 1 w := by simp [sizeOf, typeInfo, hi, hz1]
  rw [hs]
  have h0 : ¬ c = l := by omega
  simp only [Result.andThen, sliced, Int.toNat_natCast, Nat.mul_one, Option.map_some]
  have ea : (⟨g, 0, none⟩ : Addr).add l = ⟨g, l, none⟩ := by
    simp [Addr.add]
    try (intro h; exact h.symm)
  simp only [ea]
  simp
  intro h
  exact absurd h h0
theorem four_str (n : Nat) (f : Nat → Int) : strOf 4 (fun i => lentF n f (n + i)) = strOf 4 (fun i => [(201 : Int), 202, 203, 204].getD i 0) := by
  refine strOf_congr fun i hi => ?_
  unfold lentF
  rw [if_neg (by omega)]
  rcases (by omega : i = 0 ∨ i = 1 ∨ i = 2 ∨ i = 3) with rfl | rfl | rfl | rfl <;> simp <;> omega
theorem four_new (w : World) : (convert 30 9 (.slice (some ⟨w.heap.size, 0, none⟩) 4 4)).run Tryz.prog (w.alloc (.cells #[.int .u8 201, .int .u8 202, .int .u8 203, .int .u8 204] 5)).drew = .ok (.string (strOf 4 (fun i => [(201 : Int), 202, 203, 204].getD i 0))) (w.alloc (.cells #[.int .u8 201, .int .u8 202, .int .u8 203, .int .u8 204] 5)).drew := by
  refine run_str Tryz.underlying30 Tryz.underlying5 Tryz.underlying9 ?_ 4
  refine ((Arr.new w .u8 _ _ 4 _ ?_).drew).ints
  intro i hi
  rcases (by omega : i = 0 ∨ i = 1 ∨ i = 2 ∨ i = 3) with rfl | rfl | rfl | rfl <;> rfl
set_option maxRecDepth 100000 in
theorem KeptBytes_row (g c n : Nat) (a2 : Option Addr) (c2 : Nat) (f : Nat → Int) (w : World) (hn : n ≤ 1000000) (hc : n + 4 ≤ c) (_hm : c ≤ maxLen) (hA : Arr w .u8 g (n + 4) (lentF n f)) (h2 : Sl .u8 w (.slice a2 n c2) n f) :
    Calls Tryz.prog 25 #[.slice (some ⟨g, 0, none⟩) n c, .slice a2 n c2] w fun e w' => e = .returned (.bool true) ∧ Below w.heap.size w w' := by
  have hI := hA.ints
  have hg := hI.lt (by omega)
  have E1 : ∀ w' : World, Hid (Below w.heap.size w w') → (convert 30 9 (.slice (some ⟨g, 0, none⟩) n c)).run Tryz.prog w' = .ok (.string (strOf n f)) w' := by
    intro w' hB
    refine run_str Tryz.underlying30 Tryz.underlying5 Tryz.underlying9 ?_ c
    intro i hi
    have h := hI.below hB.out hg i (by omega)
    rw [h]
    unfold lentF
    rw [if_pos hi]
  have E2 : ∀ w' : World, Hid (Below w.heap.size w w') → (convert 30 9 (.slice a2 n c2)).run Tryz.prog w' = .ok (.string (strOf n f)) w' := by
    intro w' hB
    exact run_str_sl Tryz.underlying30 Tryz.underlying5 Tryz.underlying9 (h2.below hB.out)
  have E3 : ∀ w' : World, Hid (Below w.heap.size w w') → (convert 30 9 (.slice (some ⟨g, n, none⟩) 4 (c - n))).run Tryz.prog w' = .ok (.string (strOf 4 (fun i => [(201 : Int), 202, 203, 204].getD i 0))) w' := by
    intro w' hB
    rw [← four_str n f]
    refine run_str Tryz.underlying30 Tryz.underlying5 Tryz.underlying9 ?_ _
    intro i hi
    have h := hI.below hB.out hg (n + i) (by omega)
    rw [Nat.zero_add] at h
    exact h
  have S1 := fun W => slice_to g n c c (Nat.le_refl _) W
  have S2 := fun W => slice_mid g c c n (n + 4) (by omega) (by omega) W
  have F4 := four_new w
  simp only [List.getD_eq_getElem?_getD] at F4
  have n1 : IntKind.i64.wrap ((n : Int) + 4) = (n : Int) + 4 := IntWalk.i64_in _ (by omega)
  have n2 : ((n + 4 : Nat) : Int) = (n : Int) + 4 := by omega
  rw [n2] at S2
  have d1 : decide ((n : Int) + 4 ≤ (c : Int)) = true := by simp; omega
  have B1 : Hid (Below w.heap.size w w.drew) := Lib.hid (Below.refl _ _).drew
  have B2 : Hid (Below w.heap.size w (w.alloc (.cells #[.int .u8 201, .int .u8 202, .int .u8 203, .int .u8 204] 5)).drew) := Lib.hid ((Below.refl w.heap.size w).alloc (Nat.le_refl _) _).drew
  clear hI hA h2 hg
  have c1 := E1 _ B1
  have c2 := E2 _ B1
  have c3 := E3 _ B1
  have c4 := E1 _ B2
  have c5 := E2 _ B2
  have c6 := E3 _ B2
  clear E1 E2 E3
  go_enter Tryz.func25, Tryz.ntmps25
  go_wp2_with fail
  go_region
  go_wp2
  go_ret
  exact ⟨rfl, B2.out⟩
end Go.Proofs.YtbmglemjfodfhaaGreat
namespace Go.Proofs.YtbmglemjfodfhaaGreat
open Go.RowKit
set_option maxRecDepth 100000 in
theorem LentBytes_empty (a : Addr) (c : Nat) (f : Nat → Int) (w : World) :
    Calls Tryz.prog 21 #[.slice (some a) 0 c] w (Lent w 0 f) := by
  obtain ⟨i0, hi, hz0, hz1, hz2⟩ := info_parts info_byte
  have LL := Lib.hid (lent_list 0 f)
  go_enter Tryz.func21, Tryz.ntmps21
  go_wp2_with (first
    | (at_builtin; (refine wpList_append_own _ rfl (.tmp 4) (.tmp 5) 30 rfl w.heap.size 5 i0 (.int .u8 0) 1 1 Tryz.underlying30 hi hz0 hz1 hz2 rfl (by decide) _ _ _ rfl (World.ownsRow_made w #[] 0 (Nat.le_refl _) (Nat.zero_le _) rfl) a 0 c [] rfl (by simp) (by simp) (by simp) (by unfold maxLen; omega) (by omega) (by simp) ?_); intro v' w1 hown hgr hnil; simp only [Nat.zero_add, List.nil_append] at hown; have hB1 : Below w.heap.size w w1 := ((Below.refl w.heap.size w).alloc (Nat.le_refl _) (.cells #[] 5)).grown hgr (by simp) (fun k hk => by cases hk; exact Nat.le_refl _); have OWN := Lib.hid hown; have HB1 := Lib.hid hB1; have sz := hB1.size; clear hown hgr hnil hB1)
    | (at_builtin; (refine wpList_append_own _ rfl (.tmp 7) (.tmp 8) 30 rfl w.heap.size 5 i0 (.int .u8 0) 1 1 Tryz.underlying30 hi hz0 hz1 hz2 rfl (by decide) _ _ _ rfl (OWN.out.alloc _) ⟨w1.heap.size, 0, none⟩ 4 4 [.int .u8 201, .int .u8 202, .int .u8 203, .int .u8 204] rfl rfl (World.news_of_block (cs := #[.int .u8 201, .int .u8 202, .int .u8 203, .int .u8 204]) (t := 5) (fr := (0, 0)) (heap_alloc_new w1 _)) (by simp [Value.oneCell']) (by unfold maxLen; omega) (by omega) (by simp; omega) ?_); intro v2 w2 hown2 hgr2 hnil2; rw [List.nil_append] at hown2; have LL' : [Value.int .u8 201, .int .u8 202, .int .u8 203, .int .u8 204] = (List.range (0 + 4)).map fun i => Value.int .u8 (lentF 0 f i) := LL.out; rw [LL'] at hown2; have hB2 : Below w.heap.size w w2 := (HB1.out.alloc sz (.cells #[.int .u8 201, .int .u8 202, .int .u8 203, .int .u8 204] 5)).grown hgr2 (by simp; omega) (fun q hq => (OWN.out.lt q hq).1); obtain ⟨g, c', hv, h1, h2, h3, h4, h5⟩ := Arr.of_own hown2 (by omega); subst hv; have HA := Lib.hid h5; have HB := Lib.hid hB2; have nb := fun W => slice_to g 4 c' 0 (by omega) W; clear hown2 hgr2 hnil2 h5 hB2 LL'))
  go_ret
  exact ⟨g, c', rfl, h1, h2, h3, h4, HA.out, HB.out⟩
theorem LentBytes_any (v : Value) (n : Nat) (f : Nat → Int) (w : World) (hn : n ≤ 1000000) (hs : Sl .u8 w v n f) :
    Calls Tryz.prog 21 #[v] w (Lent w n f) := by
  obtain ⟨a, c, rfl, h1, h2, h3⟩ := hs
  rcases h3 with ⟨rfl, h5⟩ | ⟨b, o, rfl, _, h4⟩
  · cases a with
    | none =>
      obtain rfl : c = 0 := h5 rfl
      exact LentBytes_nil f w
    | some a => exact LentBytes_empty a c f w
  · exact LentBytes_row b o c n f w hn h4
theorem lentF_lt {n : Nat} {f : Nat → Int} (i : Nat) (h : i < n) : lentF n f i = f i := by unfold lentF; rw [if_pos h]
theorem Lent.sl {w : World} {g c n : Nat} {f : Nat → Int} (h2 : g < w.heap.size) (h3 : n + 4 ≤ c) (h4 : c ≤ maxLen) (h : Arr w .u8 g (n + 4) (lentF n f)) : Sl .u8 w (.slice (some ⟨g, 0, none⟩) n c) n f :=
  ⟨_, c, rfl, by omega, h4, .inr ⟨g, 0, rfl, h2, fun i hi => by rw [h.ints i (by omega), lentF_lt i hi]⟩⟩
end Go.Proofs.YtbmglemjfodfhaaGreat
namespace Go.Proofs.YtbmglemjfodfhaaGreat
open Go.RowKit
namespace Mo
open Fr
def szV (n : Int) : Int := if n = 0 then 38016 else if n = 1 then 152064 else 0
theorem size_any (n : Int) (w : World) : Calls Tryz.prog 43 #[.int .i64 n] w fun e w' => e = .returned (.int .i64 (szV n)) ∧ w = w' := by
  by_cases h0 : n = 0
  · subst h0
    go_enter Tryz.func43, Tryz.ntmps43
    go_wp2
    go_ret
    exact ⟨rfl, rfl⟩
  · by_cases h1 : n = 1
    · subst h1
      go_enter Tryz.func43, Tryz.ntmps43
      go_wp2
      go_ret
      exact ⟨rfl, rfl⟩
    · have E : Hid (szV n = 0) := Lib.hid (by unfold szV; rw [if_neg h0, if_neg h1])
      have k0 : (n == 0) = false := by simp [h0]
      have k1 : (n == 1) = false := by simp [h1]
      clear h0 h1
      go_enter Tryz.func43, Tryz.ntmps43
      go_wp2
      go_ret
      exact ⟨by rw [E.out]; rfl, rfl⟩
theorem made_arr {w : World} {base g N : Nat} {e : TypeId} (h : w.ownsRow base e 1 (.slice (some ⟨g, 0, none⟩) N N) N (madeCells (Value.int .u8 0).cells (N * 1)).toList) : Arr w .u8 g N (fun _ => 0) := by
  have hc := fun j u hu => World.ownsRow.cells h (g := g) rfl j u hu
  rcases h.2 with ⟨h0, _⟩ | ⟨g', cap, cur, h1, h2, h3, h4⟩
  · cases h0
  · cases h1
    intro i hi
    have h5 := hc i (.int .u8 0) (by simp [madeCells, Value.cells, hi, Nat.mod_one])
    rw [show (⟨g, 0, none⟩ : Addr).add i = ⟨g, i, none⟩ by unfold Addr.add; split <;> simp_all] at h5
    exact ⟨h5, frozen_of_row h3 i⟩
end Mo
end Go.Proofs.YtbmglemjfodfhaaGreat
namespace Go.Proofs.YtbmglemjfodfhaaGreat
open Go.RowKit
namespace Mo
open Fr
theorem u8_bd (x : Int) : 0 ≤ IntKind.u8.wrap x ∧ IntKind.u8.wrap x ≤ 255 := by rw [IntKind.wrap_u8]; omega
set_option maxRecDepth 100000 in
set_option maxHeartbeats 1000000 in
theorem SceneB_any (n a b : Int) (N : Nat) (hn : n = 0 ∨ n = 1) (hN : (N : Int) = zV n) (w : World) :
    Calls Tryz.prog 13 #[.int .i64 n, .int .i64 a, .int .i64 b] w fun e w' => ∃ g F, e = .returned (.slice (some ⟨g, 0, none⟩) N N) ∧ w.heap.size ≤ g ∧ g < w'.heap.size ∧ Arr w' .u8 g N F ∧ (∀ i, 0 ≤ F i ∧ F i ≤ 255) ∧ Below w.heap.size w w' := by
  have ES : Hid (szV n = (N : Int)) := Lib.hid (by rw [hN]; rcases hn with rfl | rfl <;> rfl)
  have Nb : 0 < N ∧ N ≤ 152064 := by rcases hn with rfl | rfl <;> (have : (N : Int) = _ := hN; simp [zV] at this; omega)
  clear hN hn
  obtain ⟨i0, hi, hz0, hz1, hz2⟩ := info_parts info_byte
  go_enter Tryz.func13, Tryz.ntmps13
  go_wp2_with fail
  refine (size_any n _).mono ?_
  rintro e w1 ⟨rfl, rfl⟩
  rw [ES.out]
  go_wp2_with (refine wpList_make_full w rfl _ _ 30 rfl w.heap.size 5 i0 (.int .u8 0) 1 Tryz.underlying30 hi hz0 hz1 .i64 .i64 _ _ N rfl rfl rfl rfl (by rw [hz2]; omega) (by unfold maxLen; omega) (Nat.le_refl _) ?_; intro w1 hown hgr; have HA := Lib.hid (made_arr hown); have HB := Lib.hid ((Below.refl w.heap.size w).grown hgr (Nat.le_refl _) (fun _ e => by cases e)); clear hown hgr)
  go_loopw [8, 9] (fun X i wr => ∃ (k : Nat) (xx : Int), k ≤ N ∧ X = .int .u64 xx ∧ i = .int .i64 k ∧ (∃ F, Arr wr .u8 w.heap.size N F ∧ ∀ i, 0 ≤ F i ∧ F i ≤ 255) ∧ Below w.heap.size w wr) (fun _ i _ => N - (intOf i).toNat)
  case atStart => exact ⟨0, _, by omega, rfl, rfl, ⟨_, HA.out, fun _ => by omega⟩, HB.out⟩
  case round =>
    clear HA HB
    obtain ⟨k, xx, hk, rfl, rfl, ⟨F, hA, hF⟩, hB⟩ := hrel
    have HFb := Lib.hid hF
    clear hF
    by_cases hkn : k < N
    · have c1 := hA k hkn
      have HA := Lib.hid hA
      have HB := Lib.hid hB
      have kb : (0 : Int) ≤ (k : Int) ∧ (k : Int) < (N : Int) := by omega
      clear hA hB
      go_wp2_with fail
      go_roundw
      case rel => exact ⟨k + 1, _, by omega, rfl, by go_num, ⟨_, HA.out.set k _, fun m => by
        by_cases hm : m = k
        · rw [if_pos hm]; exact u8_bd _
        · rw [if_neg hm]; exact HFb.out m⟩, HB.out.setCell (p := ⟨w.heap.size, k, none⟩) (Nat.le_refl _) _⟩
      case measure => simp [intOf]; omega
    · have hk' : N ≤ k := by omega
      have HA := Lib.hid hA
      have HB := Lib.hid hB
      have hlt := hA.lt Nb.1
      clear hA hB
      go_wp2_with fail
      go_ret
      exact ⟨_, F, rfl, Nat.le_refl _, hlt, HA.out, HFb.out, HB.out⟩
end Mo
end Go.Proofs.YtbmglemjfodfhaaGreat
