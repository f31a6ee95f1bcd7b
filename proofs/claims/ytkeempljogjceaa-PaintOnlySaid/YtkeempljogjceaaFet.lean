/- motion: Fetch, whatever it is given. -/
import Derived.Test.YtkeempljogjceaaMo6
import Derived.Test.YtkeempljogjceaaMo7
namespace Go.Proofs.Ytkeempljogjceaa
open Go.RowKit
namespace Mo
open Fr

def fetN (N n g a k x y : Int) : Nat := if fetE N n g a k x y = 0 then 64 else 0
theorem fetE_zero {N n g a k x y : Int} (h : fetE N n g a k x y = 0) : cE n g a = 0 ∧ N = zV n ∧ (1 ≤ k ∧ k ≤ 6) ∧ vE n g a x y = 0 := by
  unfold fetE at h
  by_cases h1 : cE n g a = 0
  · rw [if_neg (by omega)] at h
    by_cases h2 : N = zV n
    · rw [if_neg (by omega)] at h
      by_cases h3 : k < 1 ∨ 6 < k
      · rw [if_pos h3] at h; omega
      · rw [if_neg h3] at h; exact ⟨h1, h2, by omega, h⟩
    · rw [if_pos h2] at h; omega
  · rw [if_pos h1] at h; omega
theorem zV_pos {n : Int} (hn : n = 0 ∨ n = 1) : 0 < zV n := by rcases hn with rfl | rfl <;> decide
theorem Fetch_any (v : Value) (N : Nat) (f : Nat → Int) (n g a k x y : Int) (w : World) (hs : Sl .u8 w v N f) (hx : (Lit.int .i64 x).wf = true) (hy : (Lit.int .i64 y).wf = true) :
    Calls Try.prog 27 #[v, .agg #[.int .i64 n, .int .i64 g, .int .i64 a], .int .i64 k, .int .i64 x, .int .i64 y] w fun e w' => ∃ v', e = .returned (.tuple #[v', .int .i64 (fetE N n g a k x y)]) ∧ Res .u8 w.heap.size w' v' (fetN N n g a k x y) (fetF f n g a k x y) ∧ Below w.heap.size w w' := by
  have no : ∀ e w', fetE N n g a k x y ≠ 0 → (e = Ending.returned (.tuple #[.slice none 0 0, .int .i64 (fetE N n g a k x y)]) ∧ Below w.heap.size w w') →
      ∃ v', e = .returned (.tuple #[v', .int .i64 (fetE N n g a k x y)]) ∧ Res .u8 w.heap.size w' v' (fetN N n g a k x y) (fetF f n g a k x y) ∧ Below w.heap.size w w' := fun e w' h ⟨h1, h2⟩ =>
    ⟨_, h1, .inl ⟨by unfold fetN; rw [if_neg h], rfl⟩, h2⟩
  by_cases hc : cE n g a = 0
  · obtain ⟨o, c, rfl, h1, h2, h3⟩ := hs
    by_cases hN : (N : Int) = zV n
    · by_cases hk1 : k < 1
      · exact (fetch_no3a o N c n g a k x y w hc hN hk1).mono (fun e w' h => no e w' (fun h0 => by have := (fetE_zero h0).2.2.1; omega) h)
      · by_cases hk2 : 6 < k
        · exact (fetch_no3b o N c n g a k x y w hc hN hk2).mono (fun e w' h => no e w' (fun h0 => by have := (fetE_zero h0).2.2.1; omega) h)
        · by_cases hv : vE n g a x y = 0
          · have e0 : fetE N n g a k x y = 0 := by unfold fetE; rw [if_neg (by omega), if_neg (by omega), if_neg (by omega), hv]
            have eN : fetN N n g a k x y = 64 := by unfold fetN; rw [if_pos e0]
            have hp := zV_pos (cE_cases n g a hc).1
            rcases h3 with ⟨h0, _⟩ | ⟨b, oo, rfl, hb, hI⟩
            · omega
            · rw [e0, eN]
              by_cases hk : k ≤ 4
              · exact fetch_luma b oo N c f n g a k x y w hI hb h1 h2 hN (by omega) hv hx hy
              · exact fetch_chroma b oo N c f n g a k x y w hI hb h1 h2 hN (by omega) hv hx hy
          · exact (fetch_no4 o N c n g a k x y w hc hN (by omega) hx hy hv).mono (fun e w' h => no e w' (fun h0 => hv (fetE_zero h0).2.2.2) h)
    · exact (fetch_no2 o N c n g a k x y w hc hN).mono (fun e w' h => no e w' (fun h0 => hN (fetE_zero h0).2.1) h)
  · exact (fetch_no1 v n g a k x y N w hc).mono (fun e w' h => no e w' (fun h0 => hc (fetE_zero h0).1) h)

end Mo
end Go.Proofs.Ytkeempljogjceaa
