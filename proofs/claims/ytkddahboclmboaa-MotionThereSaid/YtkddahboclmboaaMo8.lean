/- motion: Fetch, whatever it is given; the chapter's picture. -/
import Derived.Test.YtkddahboclmboaaMo6
import Derived.Test.YtkddahboclmboaaMo7
namespace Go.Proofs.Ytkddahboclmboaa
open Go.RowKit
namespace Mo
open Fr

def fetN (N n g a k x y : Int) : Nat := if fetE N n g a k x y = 0 then 64 else 0
theorem fetE_zero {N n g a k x y : Int} (h : fetE N n g a k x y = 0) : cE n g a = 0 ∧ N = zV n ∧ (1 ≤ k ∧ k ≤ 6) ∧ vE n g a x y = 0 := by
  unfold fetE at h
  by_cases h1 : cE n g a = 0
  · rw [if_neg (by omega)] at h
    by_cases h2 : N = zV n
    · rw [if_neg (by omega)] at h
      by_cases h3 : k < 1 ∨ 6 < k
      · rw [if_pos h3] at h; omega
      · rw [if_neg h3] at h; exact ⟨h1, h2, by omega, h⟩
    · rw [if_pos h2] at h; omega
  · rw [if_pos h1] at h; omega
theorem zV_pos {n : Int} (hn : n = 0 ∨ n = 1) : 0 < zV n := by rcases hn with rfl | rfl <;> decide
theorem Fetch_any (v : Value) (N : Nat) (f : Nat → Int) (n g a k x y : Int) (w : World) (hs : Sl .u8 w v N f) (hx : (Lit.int .i64 x).wf = true) (hy : (Lit.int .i64 y).wf = true) :
    Calls Try.prog 17 #[v, .agg #[.int .i64 n, .int .i64 g, .int .i64 a], .int .i64 k, .int .i64 x, .int .i64 y] w fun e w' => ∃ v', e = .returned (.tuple #[v', .int .i64 (fetE N n g a k x y)]) ∧ Res .u8 w.heap.size w' v' (fetN N n g a k x y) (fetF f n g a k x y) ∧ Below w.heap.size w w' := by
  have no : ∀ e w', fetE N n g a k x y ≠ 0 → (e = Ending.returned (.tuple #[.slice none 0 0, .int .i64 (fetE N n g a k x y)]) ∧ Below w.heap.size w w') →
      ∃ v', e = .returned (.tuple #[v', .int .i64 (fetE N n g a k x y)]) ∧ Res .u8 w.heap.size w' v' (fetN N n g a k x y) (fetF f n g a k x y) ∧ Below w.heap.size w w' := fun e w' h ⟨h1, h2⟩ =>
    ⟨_, h1, .inl ⟨by unfold fetN; rw [if_neg h], rfl⟩, h2⟩
  by_cases hc : cE n g a = 0
  · obtain ⟨o, c, rfl, h1, h2, h3⟩ := hs
    by_cases hN : (N : Int) = zV n
    · by_cases hk1 : k < 1
      · exact (fetch_no3a o N c n g a k x y w hc hN hk1).mono (fun e w' h => no e w' (fun h0 => by have := (fetE_zero h0).2.2.1; omega) h)
      · by_cases hk2 : 6 < k
        · exact (fetch_no3b o N c n g a k x y w hc hN hk2).mono (fun e w' h => no e w' (fun h0 => by have := (fetE_zero h0).2.2.1; omega) h)
        · by_cases hv : vE n g a x y = 0
          · have e0 : fetE N n g a k x y = 0 := by unfold fetE; rw [if_neg (by omega), if_neg (by omega), if_neg (by omega), hv]
            have eN : fetN N n g a k x y = 64 := by unfold fetN; rw [if_pos e0]
            have hp := zV_pos (cE_cases n g a hc).1
            rcases h3 with ⟨h0, _⟩ | ⟨b, oo, rfl, hb, hI⟩
            · omega
            · rw [e0, eN]
              by_cases hk : k ≤ 4
              · exact fetch_luma b oo N c f n g a k x y w hI hb h1 h2 hN (by omega) hv hx hy
              · exact fetch_chroma b oo N c f n g a k x y w hI hb h1 h2 hN (by omega) hv hx hy
          · exact (fetch_no4 o N c n g a k x y w hc hN (by omega) hx hy hv).mono (fun e w' h => no e w' (fun h0 => hv (fetE_zero h0).2.2.2) h)
    · exact (fetch_no2 o N c n g a k x y w hc hN).mono (fun e w' h => no e w' (fun h0 => hN (fetE_zero h0).2.1) h)
  · exact (fetch_no1 v n g a k x y N w hc).mono (fun e w' h => no e w' (fun h0 => hc (fetE_zero h0).1) h)

/-- the chapter's picture. -/
def chF (i : Nat) : Int := if i < 25344 then ((i % 176 : Nat) : Int) else (((i - 25344) % 6336 / 88 : Nat) : Int)
def OwnB (w0 wr : World) (v : Value) (n : Nat) : Prop := wr.ownsRow w0.heap.size 5 1 v n ((List.range n).map fun j => .int .u8 (chF j)) ∧ Below w0.heap.size w0 wr
theorem chF_luma (y x : Nat) (hx : x < 176) (hy : y < 144) : chF (176 * y + x) = (x : Int) := by unfold chF; rw [if_pos (by omega)]; congr 1; omega
theorem chF_chroma (k y x : Nat) (hx : x < 88) (hy : y < 72) (hk : k < 2) : chF (25344 + 6336 * k + 88 * y + x) = (y : Int) := by unfold chF; rw [if_neg (by omega)]; congr 1; omega
theorem u8_in (x : Int) (h : 0 ≤ x ∧ x < 256) : IntKind.u8.wrap x = x := by show x % 256 = x; omega

set_option maxRecDepth 100000 in
set_option maxHeartbeats 2000000 in
theorem chapter_any (w : World) : Calls Try.prog 27 #[] w fun e w' => ∃ v, e = .returned v ∧ Res .u8 w.heap.size w' v 38016 chF ∧ Below w.heap.size w w' := by
  obtain ⟨i0, hi, hz0, hz1, hz2⟩ := info_parts info_u8
  go_enter Try.func27, Try.ntmps27
  go_wp2_with fail
  go_loopw [1, 2] (fun v i wr => ∃ y : Nat, y ≤ 144 ∧ i = .int .i64 y ∧ OwnB w wr v (176 * y)) (fun _ i _ => 144 - (intOf i).toNat)
  case atStart => exact ⟨0, by omega, rfl, World.ownsRow_nil _ _ _ _, Below.refl _ _⟩
  case round =>
    obtain ⟨y, hy, rfl, hown⟩ := hrel
    by_cases hyn : y < 144
    · have OW := Lib.hid hown
      have dy : decide ((y : Int) < 144) = true := by simp; omega
      clear hown
      go_wp2_with fail
      go_loopw [1, 3] (fun v i wr => ∃ x : Nat, x ≤ 176 ∧ i = .int .i64 x ∧ OwnB w wr v (176 * y + x)) (fun _ i _ => 176 - (intOf i).toNat)
      case atStart => exact ⟨0, by omega, rfl, OW.out⟩
      case round =>
        clear OW
        obtain ⟨x, hx, rfl, hown⟩ := hrel
        by_cases hxn : x < 176
        · skip
          have e1 : IntKind.u8.wrap (x : Int) = (x : Int) := u8_in _ (by omega)
          have hc1 := chF_luma y x hxn hyn
          obtain ⟨c, hc⟩ : ∃ c, c = 176 * y + x := ⟨_, rfl⟩
          rw [← hc] at hown hc1
          have cb : c ≤ 40000 := by omega
          have OWN := Lib.hid hown.1
          have HB := Lib.hid hown.2
          have sz := hown.2.size
          have HC := Lib.hid hc
          have HC1 := Lib.hid hc1
          clear hown hc hc1
          go_wp2_with (at_builtin; refine wpList_append_own _ rfl _ _ 24 rfl w.heap.size 5 i0 (.int .u8 0) 1 1 Try.underlying24 hi hz0 hz1 hz2 rfl (by decide) _ _ _ rfl (OWN.out.alloc _) ⟨wr.heap.size, 0, none⟩ 1 1 [.int .u8 (x : Int)] rfl rfl (cell_one_new _ _ _) (by simp [Value.oneCell']) (by unfold maxLen; omega) (by omega) (by simp; omega) ?_; intro v' w1 hown2 hgr hnil)
          have hB1 : Below w.heap.size w w1 := (HB.out.alloc sz (.cells #[.int .u8 (x : Int)] 5)).grown hgr (by simp; omega) (fun q hq => (OWN.out.lt q hq).1)
          have hown3 : OwnB w w1 v' (c + 1) := ⟨by rw [← range_snoc, HC1.out]; exact hown2, hB1⟩
          have OW3 := Lib.hid hown3
          clear hown2 hgr hnil hown3 hB1 OWN HB
          go_roundw
          case rel => exact ⟨x + 1, by omega, by go_num, by have h1 := OW3.out; rw [HC.out] at h1; exact h1⟩
          case measure => simp [intOf]; omega
        · obtain rfl : x = 176 := by omega
          have OW := Lib.hid hown
          clear hown
          go_wp2_with fail
          go_roundw
          case rel => exact ⟨y + 1, by omega, by go_num, by have h1 := OW.out; rw [show 176 * (y + 1) = 176 * y + 176 by omega]; exact h1⟩
          case measure => simp [intOf]; omega
    · have hye : 176 * y = 25344 := by omega
      rw [hye] at hown
      have OW := Lib.hid hown
      have dy : decide ((y : Int) < 144) = false := by simp; omega
      clear hown hye
      go_wp2_with fail
      go_loopw [1, 4] (fun v i wr => ∃ k : Nat, k ≤ 2 ∧ i = .int .i64 k ∧ OwnB w wr v (25344 + 6336 * k)) (fun _ i _ => 2 - (intOf i).toNat)
      case atStart => exact ⟨0, by omega, rfl, OW.out⟩
      case round =>
        clear OW
        obtain ⟨k, hk, rfl, hown⟩ := hrel
        by_cases hkn : k < 2
        · have OW := Lib.hid hown
          have dk : decide ((k : Int) < 2) = true := by simp; omega
          clear hown
          go_wp2_with fail
          go_loopw [1, 5] (fun v i wr => ∃ y : Nat, y ≤ 72 ∧ i = .int .i64 y ∧ OwnB w wr v (25344 + 6336 * k + 88 * y)) (fun _ i _ => 72 - (intOf i).toNat)
          case atStart => exact ⟨0, by omega, rfl, OW.out⟩
          case round =>
            clear OW
            obtain ⟨y, hy, rfl, hown⟩ := hrel
            by_cases hyn : y < 72
            · have OW := Lib.hid hown
              have dy : decide ((y : Int) < 72) = true := by simp; omega
              clear hown
              go_wp2_with fail
              go_loopw [1, 6] (fun v i wr => ∃ x : Nat, x ≤ 88 ∧ i = .int .i64 x ∧ OwnB w wr v (25344 + 6336 * k + 88 * y + x)) (fun _ i _ => 88 - (intOf i).toNat)
              case atStart => exact ⟨0, by omega, rfl, OW.out⟩
              case round =>
                clear OW
                obtain ⟨x, hx, rfl, hown⟩ := hrel
                by_cases hxn : x < 88
                · skip
                  have e1 : IntKind.u8.wrap (y : Int) = (y : Int) := u8_in _ (by omega)
                  have hc1 := chF_chroma k y x hxn hyn hkn
                  obtain ⟨c, hc⟩ : ∃ c, c = 25344 + 6336 * k + 88 * y + x := ⟨_, rfl⟩
                  rw [← hc] at hown hc1
                  have cb : c ≤ 40000 := by omega
                  have OWN := Lib.hid hown.1
                  have HB := Lib.hid hown.2
                  have sz := hown.2.size
                  have HC := Lib.hid hc
                  have HC1 := Lib.hid hc1
                  clear hown hc hc1
                  go_wp2_with (at_builtin; refine wpList_append_own _ rfl _ _ 24 rfl w.heap.size 5 i0 (.int .u8 0) 1 1 Try.underlying24 hi hz0 hz1 hz2 rfl (by decide) _ _ _ rfl (OWN.out.alloc _) ⟨wr.heap.size, 0, none⟩ 1 1 [.int .u8 (y : Int)] rfl rfl (cell_one_new _ _ _) (by simp [Value.oneCell']) (by unfold maxLen; omega) (by omega) (by simp; omega) ?_; intro v' w1 hown2 hgr hnil)
                  have hB1 : Below w.heap.size w w1 := (HB.out.alloc sz (.cells #[.int .u8 (y : Int)] 5)).grown hgr (by simp; omega) (fun q hq => (OWN.out.lt q hq).1)
                  have hown3 : OwnB w w1 v' (c + 1) := ⟨by rw [← range_snoc, HC1.out]; exact hown2, hB1⟩
                  have OW3 := Lib.hid hown3
                  clear hown2 hgr hnil hown3 hB1 OWN HB
                  go_roundw
                  case rel => exact ⟨x + 1, by omega, by go_num, by have h1 := OW3.out; rw [HC.out] at h1; exact h1⟩
                  case measure => simp [intOf]; omega
                · obtain rfl : x = 88 := by omega
                  have OW := Lib.hid hown
                  clear hown
                  go_wp2_with fail
                  go_roundw
                  case rel => exact ⟨y + 1, by omega, by go_num, by have h1 := OW.out; rw [show 25344 + 6336 * k + 88 * (y + 1) = 25344 + 6336 * k + 88 * y + 88 by omega]; exact h1⟩
                  case measure => simp [intOf]; omega
            · obtain rfl : y = 72 := by omega
              have OW := Lib.hid hown
              clear hown
              go_wp2_with fail
              go_roundw
              case rel => exact ⟨k + 1, by omega, by go_num, by have h1 := OW.out; rw [show 25344 + 6336 * (k + 1) = 25344 + 6336 * k + 88 * 72 by omega]; exact h1⟩
              case measure => simp [intOf]; omega
        · obtain rfl : k = 2 := by omega
          have OW := Lib.hid hown
          clear hown
          go_wp2_with fail
          go_ret
          exact ⟨_, rfl, Res.of_own OW.out.1, OW.out.2⟩
end Mo
end Go.Proofs.Ytkddahboclmboaa
