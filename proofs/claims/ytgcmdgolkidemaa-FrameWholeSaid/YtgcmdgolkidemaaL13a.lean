/- law13: small words; awake; FramePlaces. -/
import Derived.Test.YtgcmdgolkidemaaNxt2
import Derived.Test.YtgcmdgolkidemaaPlc
import Derived.Test.YtgcmdgolkidemaaRg1
namespace Go.Proofs.Ytgcmdgolkidemaa
open Go.RowKit
namespace L13
open Fr

theorem sized_yes (n : Int) (w : World) : Calls Try.prog 21 #[.int .i64 n, .int .i64 (wV n), .int .i64 (hV n), .int .i64 (zV n), .int .i64 (fE n)] w fun e w' => e = .returned (.bool true) ∧ w = w' := by
  obtain ⟨a, ha⟩ : ∃ a, wV n = a := ⟨_, rfl⟩
  obtain ⟨b, hb⟩ : ∃ b, hV n = b := ⟨_, rfl⟩
  obtain ⟨c, hc⟩ : ∃ c, zV n = c := ⟨_, rfl⟩
  obtain ⟨d, hd⟩ : ∃ d, fE n = d := ⟨_, rfl⟩
  have HC : ∀ v, Calls Try.prog 8 #[.int .i64 n] v fun e w' => e = .returned (.tuple #[.int .i64 a, .int .i64 b, .int .i64 c, .int .i64 d]) ∧ v = w' := fun v => by rw [← ha, ← hb, ← hc, ← hd]; exact Size_any n v
  rw [ha, hb, hc, hd]
  clear ha hb hc hd
  go_enter Try.func21, Try.ntmps21
  go_wp2_with fail
  refine (HC _).mono ?_
  rintro e w1 ⟨rfl, rfl⟩
  go_wp2_with fail
  go_ret
  exact ⟨rfl, rfl⟩
theorem next_yes (n g : Int) (w : World) : Calls Try.prog 22 #[.int .i64 n, .int .i64 g, .int .i64 (Nx.nV n g), .int .i64 (Nx.nEr n g)] w fun e w' => e = .returned (.bool true) ∧ Below w.heap.size w w' := by
  obtain ⟨a, ha⟩ : ∃ a, Nx.nV n g = a := ⟨_, rfl⟩
  obtain ⟨b, hb⟩ : ∃ b, Nx.nEr n g = b := ⟨_, rfl⟩
  have HC : ∀ v, Calls Try.prog 12 #[.int .i64 n, .int .i64 g] v fun e w' => e = .returned (.tuple #[.int .i64 a, .int .i64 b]) ∧ Below v.heap.size v w' := fun v => by rw [← ha, ← hb]; exact Nx.Next_any n g v
  rw [ha, hb]
  clear ha hb
  go_enter Try.func22, Try.ntmps22
  go_wp2_with fail
  refine (HC _).mono ?_
  rintro e w1 ⟨rfl, b1⟩
  have HB := Lib.hid b1
  clear b1
  go_wp2_with fail
  go_ret
  exact ⟨rfl, HB.out⟩
theorem corner_yes (n g a : Int) (w : World) : Calls Try.prog 23 #[.int .i64 n, .int .i64 g, .int .i64 a, .int .i64 (cX n g a), .int .i64 (cY n g a), .int .i64 (cE n g a)] w fun e w' => e = .returned (.bool true) ∧ Below w.heap.size w w' := by
  obtain ⟨x, hx⟩ : ∃ x, cX n g a = x := ⟨_, rfl⟩
  obtain ⟨y, hy⟩ : ∃ x, cY n g a = x := ⟨_, rfl⟩
  obtain ⟨z, hz⟩ : ∃ x, cE n g a = x := ⟨_, rfl⟩
  have HC : ∀ v, Calls Try.prog 17 #[.int .i64 n, .int .i64 g, .int .i64 a] v fun e w' => e = .returned (.tuple #[.int .i64 x, .int .i64 y, .int .i64 z]) ∧ Below v.heap.size v w' := fun v => by rw [← hx, ← hy, ← hz]; exact Corner_any n g a v
  rw [hx, hy, hz]
  clear hx hy hz
  go_enter Try.func23, Try.ntmps23
  go_wp2_with fail
  refine (HC _).mono ?_
  rintro e w1 ⟨rfl, b1⟩
  have HB := Lib.hid b1
  clear b1
  go_wp2_with fail
  go_ret
  exact ⟨rfl, HB.out⟩
theorem place_yes (n g a k : Int) (w : World) : Calls Try.prog 24 #[.int .i64 n, .int .i64 g, .int .i64 a, .int .i64 k, .int .i64 (Pt.pA n g a k), .int .i64 (Pt.pS n g a k), .int .i64 (Pt.pE n g a k)] w fun e w' => e = .returned (.bool true) ∧ Below w.heap.size w w' := by
  obtain ⟨x, hx⟩ : ∃ x, Pt.pA n g a k = x := ⟨_, rfl⟩
  obtain ⟨y, hy⟩ : ∃ x, Pt.pS n g a k = x := ⟨_, rfl⟩
  obtain ⟨z, hz⟩ : ∃ x, Pt.pE n g a k = x := ⟨_, rfl⟩
  have HC : ∀ v, Calls Try.prog 19 #[.int .i64 n, .int .i64 g, .int .i64 a, .int .i64 k] v fun e w' => e = .returned (.tuple #[.int .i64 x, .int .i64 y, .int .i64 z]) ∧ Below v.heap.size v w' := fun v => by rw [← hx, ← hy, ← hz]; exact Pt.Place_any n g a k v
  rw [hx, hy, hz]
  clear hx hy hz
  go_enter Try.func24, Try.ntmps24
  go_wp2_with fail
  refine (HC _).mono ?_
  rintro e w1 ⟨rfl, b1⟩
  have HB := Lib.hid b1
  clear b1
  go_wp2_with fail
  go_ret
  exact ⟨rfl, HB.out⟩
theorem sized_lit (n a b c d : Int) (w : World) (h : wV n = a ∧ hV n = b ∧ zV n = c ∧ fE n = d) : Calls Try.prog 21 #[.int .i64 n, .int .i64 a, .int .i64 b, .int .i64 c, .int .i64 d] w fun e w' => e = .returned (.bool true) ∧ w = w' := by
  obtain ⟨rfl, rfl, rfl, rfl⟩ := h; exact sized_yes n w
theorem next_lit (n g a b : Int) (w : World) (h : Nx.nV n g = a ∧ Nx.nEr n g = b) : Calls Try.prog 22 #[.int .i64 n, .int .i64 g, .int .i64 a, .int .i64 b] w fun e w' => e = .returned (.bool true) ∧ Below w.heap.size w w' := by
  obtain ⟨rfl, rfl⟩ := h; exact next_yes n g w
theorem corner_lit (n g a x y z : Int) (w : World) (h : cX n g a = x ∧ cY n g a = y ∧ cE n g a = z) : Calls Try.prog 23 #[.int .i64 n, .int .i64 g, .int .i64 a, .int .i64 x, .int .i64 y, .int .i64 z] w fun e w' => e = .returned (.bool true) ∧ Below w.heap.size w w' := by
  obtain ⟨rfl, rfl, rfl⟩ := h; exact corner_yes n g a w
theorem place_lit (n g a k x y z : Int) (w : World) (h : Pt.pA n g a k = x ∧ Pt.pS n g a k = y ∧ Pt.pE n g a k = z) : Calls Try.prog 24 #[.int .i64 n, .int .i64 g, .int .i64 a, .int .i64 k, .int .i64 x, .int .i64 y, .int .i64 z] w fun e w' => e = .returned (.bool true) ∧ Below w.heap.size w w' := by
  obtain ⟨rfl, rfl, rfl⟩ := h; exact place_yes n g a k w
theorem aw_facts : (wV 0 = 176 ∧ hV 0 = 144 ∧ zV 0 = 38016 ∧ fE 0 = 0) ∧ (Nx.nV 0 3 = 5 ∧ Nx.nEr 0 3 = 0) ∧ (cX 0 3 12 = 0 ∧ cY 0 3 12 = 64 ∧ cE 0 3 12 = 0) ∧ (Pt.pA 0 1 2 5 = 25352 ∧ Pt.pS 0 1 2 5 = 88 ∧ Pt.pE 0 1 2 5 = 0) := by decide +kernel
theorem awake_any (w : World) : Calls Try.prog 16 #[] w fun e w' => e = .returned (.bool true) ∧ Below w.heap.size w w' := by
  have AF := Lib.hid aw_facts
  go_enter Try.func16, Try.ntmps16
  go_wp2_with fail
  refine (sized_lit _ _ _ _ _ _ AF.out.1).mono ?_
  rintro e w1 ⟨rfl, rfl⟩
  go_wp2_with fail
  refine (next_lit _ _ _ _ _ AF.out.2.1).mono ?_
  rintro e w1 ⟨rfl, b1⟩
  have HB := Lib.hid b1
  clear b1
  go_wp2_with fail
  refine (corner_lit _ _ _ _ _ _ _ AF.out.2.2.1).mono ?_
  rintro e w2 ⟨rfl, b2⟩
  have HB := Lib.hid (chain HB.out b2)
  clear b2
  go_wp2_with fail
  refine (place_lit _ _ _ _ _ _ _ _ AF.out.2.2.2).mono ?_
  rintro e w3 ⟨rfl, b3⟩
  have HB := Lib.hid (chain HB.out b3)
  clear b3
  go_wp2_with fail
  go_ret
  exact ⟨rfl, HB.out⟩
theorem pl_eq (n g a k : Int) : Rf.plA n g a k = Pt.pA n g a k ∧ Rf.plS n g a k = Pt.pS n g a k ∧ Rf.plE n g a k = Pt.pE n g a k := by
  exact ⟨rfl, rfl, rfl⟩
set_option maxRecDepth 100000 in
theorem FramePlaces_any (n g a k : Int) (w : World) (_ : (Lit.int .i64 n).wf = true) (_ : (Lit.int .i64 g).wf = true) (_ : (Lit.int .i64 a).wf = true) (_ : (Lit.int .i64 k).wf = true) : Calls Try.prog 4 #[.int .i64 n, .int .i64 g, .int .i64 a, .int .i64 k] w fun e w' => e = .returned (.bool true) ∧ Below w.heap.size w w' := by
  obtain ⟨x, hx⟩ : ∃ x, cX n g a = x := ⟨_, rfl⟩
  obtain ⟨y, hy⟩ : ∃ x, cY n g a = x := ⟨_, rfl⟩
  obtain ⟨z, hz⟩ : ∃ x, cE n g a = x := ⟨_, rfl⟩
  obtain ⟨p, hp⟩ : ∃ x, Pt.pA n g a k = x := ⟨_, rfl⟩
  obtain ⟨q, hq⟩ : ∃ x, Pt.pS n g a k = x := ⟨_, rfl⟩
  obtain ⟨r, hr⟩ : ∃ x, Pt.pE n g a k = x := ⟨_, rfl⟩
  have H1 : ∀ v, Calls Try.prog 17 #[.int .i64 n, .int .i64 g, .int .i64 a] v fun e w' => e = .returned (.tuple #[.int .i64 x, .int .i64 y, .int .i64 z]) ∧ Below v.heap.size v w' := fun v => by rw [← hx, ← hy, ← hz]; exact Corner_any n g a v
  have H2 : ∀ v, Calls Try.prog 18 #[.int .i64 n, .int .i64 g, .int .i64 a] v fun e w' => e = .returned (.tuple #[.int .i64 x, .int .i64 y, .int .i64 z]) ∧ Below v.heap.size v w' := fun v => by rw [← hx, ← hy, ← hz]; exact Rf.rCorner_any n g a v
  have H3 : ∀ v, Calls Try.prog 19 #[.int .i64 n, .int .i64 g, .int .i64 a, .int .i64 k] v fun e w' => e = .returned (.tuple #[.int .i64 p, .int .i64 q, .int .i64 r]) ∧ Below v.heap.size v w' := fun v => by rw [← hp, ← hq, ← hr]; exact Pt.Place_any n g a k v
  have H4 : ∀ v, Calls Try.prog 20 #[.int .i64 n, .int .i64 g, .int .i64 a, .int .i64 k] v fun e w' => e = .returned (.tuple #[.int .i64 p, .int .i64 q, .int .i64 r]) ∧ Below v.heap.size v w' := fun v => by
    have h := Rf.rPlace_any n g a k v
    rwa [(pl_eq n g a k).1, (pl_eq n g a k).2.1, (pl_eq n g a k).2.2, hp, hq, hr] at h
  clear hx hy hz hp hq hr
  go_enter Try.func4, Try.ntmps4
  go_wp2_with fail
  refine (H1 _).mono ?_
  rintro e w1 ⟨rfl, b1⟩
  have HB := Lib.hid b1
  clear b1
  go_wp2_with fail
  refine (H2 _).mono ?_
  rintro e w2 ⟨rfl, b2⟩
  have HB := Lib.hid (chain HB.out b2)
  clear b2
  go_wp2_with fail
  refine (H3 _).mono ?_
  rintro e w3 ⟨rfl, b3⟩
  have HB := Lib.hid (chain HB.out b3)
  clear b3
  go_wp2_with fail
  refine (H4 _).mono ?_
  rintro e w4 ⟨rfl, b4⟩
  have HB := Lib.hid (chain HB.out b4)
  clear b4
  go_wp2_with fail
  refine (awake_any _).mono ?_
  rintro e w5 ⟨rfl, b5⟩
  have HB := Lib.hid (chain HB.out b5)
  clear b5
  go_wp2_with fail
  go_ret
  exact ⟨rfl, HB.out⟩
end L13
end Go.Proofs.Ytgcmdgolkidemaa
