/- build.Samples: where it tells samples. -/
import Derived.Test.YtbmglemjfodfhaaGreatMgBu3
import Derived.Deep.RegionWith
set_option linter.unusedVariables false
set_option linter.unusedSimpArgs false
namespace Go.Proofs.YtbmglemjfodfhaaGreat
open Go.RowKit
namespace Bu
open Bk Fr Pt Kd
structure Out (T B : Nat) (w : World) (o : Value) (k : Nat) (V : Nat → Value) (S : Nat → Nat → Int) : Prop where
  own : w.ownsRow B 30 1 o k ((List.range k).map V)
  row : ∀ i, i < k → Res .u8 B w (V i) 64 (S i)
  nil : k = 0 → o = .slice none 0 0
  le : T ≤ w.heap.size
  top : ∀ i, i < k → blk (V i) < T
  asc : ∀ i, i < k → ∀ j, j < i → blk (V j) < blk (V i)
theorem Out.below {T B : Nat} {w w' : World} {o : Value} {k : Nat} {V : Nat → Value} {S : Nat → Nat → Int} (h : Out T B w o k V S) (hb : Below w.heap.size w w') : Out T B w' o k V S :=
  ⟨h.own.kept (grown_of_below hb none) (by cases hv : Value.ownBlock o <;> simp), fun i hi => (h.row i hi).below hb, h.nil, Nat.le_trans h.le hb.size, h.top, h.asc⟩
theorem Out.apart {T B : Nat} {w : World} {o : Value} {k : Nat} {V : Nat → Value} {S : Nat → Nat → Int} (h : Out T B w o k V S) {u : Value} {f : Nat → Int} (hu : Res .u8 B w u 64 f) {g : Nat} (hg : o.ownBlock = some g) : u.ownBlock ≠ some g := by
  rcases hu with ⟨h0, _⟩ | ⟨gu, cu, rfl, _, _, _, _, hA⟩
  · omega
  · intro e
    have e : gu = g := by simpa [Value.ownBlock] using e
    subst e
    by_cases hk : k = 0
    · rw [h.nil hk] at hg; simp [Value.ownBlock] at hg
    · have h1 := h.own.cells hg 0 (V 0) (by rw [List.getElem?_map, List.getElem?_range (by omega)]; rfl)
      have h2 := (hA 0 (by omega)).1
      rw [show (⟨gu, 0, none⟩ : Addr).add 0 = ⟨gu, 0, none⟩ by simp [Addr.add]] at h1
      rw [h2] at h1
      rcases h.row 0 (by omega) with ⟨h0, _⟩ | ⟨g0, c0, e0, _⟩
      · omega
      · rw [e0] at h1; cases h1
theorem Out.snoc {T B : Nat} {w w' : World} {o o' : Value} {k : Nat} {V : Nat → Value} {S : Nat → Nat → Int} {v : Value} {tmp : Obj} (h : Out T B w o k V S) (hv : Res .u8 B w v 64 (S k)) (hn : T ≤ blk v)
    (hown : w'.ownsRow B 30 1 o' (k + 1) ((List.range k).map V ++ [v])) (hg : (w.alloc tmp).grownBy w' o.ownBlock) : Out w'.heap.size B w' o' (k + 1) (fun i => if i = k then v else V i) S := by
  have e : (List.range (k + 1)).map (fun i => if i = k then v else V i) = (List.range k).map V ++ [v] := by
    rw [List.range_succ, List.map_append, List.map_cons, List.map_nil, if_pos rfl]
    congr 1
    apply List.map_congr_left
    intro i hi
    rw [if_neg (by have := List.mem_range.1 hi; omega)]
  have hb : blk v < w'.heap.size := by
    rcases hv with ⟨h0, _⟩ | ⟨g, c, rfl, _, h2, _⟩
    · omega
    · have h3 : w.heap.size ≤ w'.heap.size := Nat.le_trans (by simp) hg.size
      exact Nat.lt_of_lt_of_le h2 h3
  have hT : T ≤ w'.heap.size := Nat.le_trans h.le (Nat.le_trans (by simp) hg.size)
  refine ⟨by rw [e]; exact hown, fun i hi => ?_, fun h => by omega, Nat.le_refl _, fun i hi => ?_, fun i hi j hj => ?_⟩
  rotate_left
  · by_cases hik : i = k
    · rw [if_pos hik]; exact hb
    · rw [if_neg hik]; exact Nat.lt_of_lt_of_le (h.top i (by omega)) hT
  · by_cases hik : i = k
    · rw [if_pos hik, if_neg (by omega)]; exact Nat.lt_of_lt_of_le (h.top j (by omega)) hn
    · rw [if_neg hik, if_neg (by omega)]; exact h.asc i (by omega) j hj
  have kept : ∀ u f, Res .u8 B w u 64 f → Res .u8 B w' u 64 f := fun u f hu => by
    have hu2 : Res .u8 B (w.alloc tmp) u 64 f := hu.below ((Below.refl _ _).alloc (Nat.le_refl _) tmp)
    exact hu2.grown hg (fun g e => h.apart hu e)
  by_cases hik : i = k
  · rw [if_pos hik, hik]; exact kept _ _ hv
  · rw [if_neg hik]; exact kept _ _ (h.row i (by omega))
theorem Out.six {T B B' : Nat} {w : World} {o : Value} {V : Nat → Value} {S : Nat → Nat → Int} (h : Out T B w o 6 V S) (hb : B' ≤ B) : Six B' w o S := by
  rcases h.own.2 with ⟨rfl, h0⟩ | ⟨g, cap, cur, rfl, h1, h2, h3, h4, h5, h6⟩
  · omega
  · refine ⟨g, cap, V, rfl, by omega, (Array.getElem?_eq_some_iff.1 h2).1, h3, h4, fun i hi => ⟨?_, Res.base (h.row i hi) hb, h.asc i hi⟩⟩
    have := h.own.cells (g := g) rfl i (V i) (by rw [List.getElem?_map, List.getElem?_range hi]; rfl)
    rwa [show (⟨g, 0, none⟩ : Addr).add i = ⟨g, i, none⟩ by unfold Addr.add; split <;> simp_all] at this
theorem Sl.grown' {k : IntKind} {w w' : World} {q : Option Addr} {n d : Nat} {f : Nat → Int} {row : Option Nat} (h : Sl k w (.slice q n d) n f) (hg : w.grownBy w' row) (hne : 0 < n → ∀ x, q = some x → some x.block ≠ row) : Sl k w' (.slice q n d) n f := by
  obtain ⟨a, c, e, h1, h2, h3⟩ := h
  cases e
  refine ⟨_, _, rfl, h1, h2, ?_⟩
  rcases h3 with h3 | ⟨b, o, e, h4, h5⟩
  · exact .inl h3
  · by_cases hn : 0 < n
    · exact .inr ⟨b, o, e, Nat.lt_of_lt_of_le h4 hg.size, h5.grown hg (hne hn _ e)⟩
    · exact .inr ⟨b, o, e, Nat.lt_of_lt_of_le h4 hg.size, fun i hi => by omega⟩
theorem ahead_kept {w6 V : World} {vf : Value} {N0 N fc B row : Nat} {F0 : Nat → Int} {fa : Option Addr} (hS : Sl .u8 w6 vf N0 F0) (hd : vf = .slice fa N fc ∨ Res .u8 B w6 vf N0 F0) (hg : w6.grownBy V (some row)) (h1 : row < B) (h2 : 0 < N → ∀ x, fa = some x → x.block ≠ row) (h3 : 0 < N0) : Sl .u8 V vf N0 F0 := by
  rcases hd with rfl | hR
  · obtain ⟨a, c, e, _⟩ := id hS
    cases e
    exact Sl.grown' hS hg (fun h0 x e2 e3 => h2 h3 x e2 (Option.some.inj e3))
  · exact (hR.grown hg (fun g e e2 => by
      have := (hR.own g e2).1
      have := Option.some.inj e
      omega)).sl
theorem sl_block {w : World} {a : Option Addr} {N c : Nat} {f : Nat → Int} (h : Sl .u8 w (.slice a N c) N f) (h0 : 0 < N) : ∀ x, a = some x → x.block < w.heap.size := fun x e => by
  obtain ⟨_, _, e2, _, _, h3⟩ := h
  cases e2
  rcases h3 with ⟨h4, _⟩ | ⟨b, o, e3, h5, _⟩
  · omega
  · rw [e3] at e; cases e; exact h5
theorem info_bytes : (Tryz.prog.info? 30).map (fun i => (i.zero, i.size, i.bytes)) = some (some (.slice none 0 0), 1, 24) := by kernel_rfl
theorem info_block : (Tryz.prog.info? 74).map (fun i => i.size) = some 2 := by kernel_rfl
theorem slice_one (b o N c : Nat) (w : World) : (Instr.slice 22 (.slice (some ⟨b, o, none⟩) (N + 1) c) (some (.int .i64 1)) none none).run Tryz.prog w = .ok (sliced (some ⟨b, o, none⟩) 1 (N + 1) c 2) w := by
  have ht : Tryz.prog.underlying 22 = some (.slice (Tryz.prog.elem 22)) := by kernel_rfl
  have he : Tryz.prog.elem 22 = 74 := by kernel_rfl
  obtain ⟨i, hi, hs⟩ := info_size info_block
  rw [run_slice_l w 22 _ (N + 1) c ht .i64 1 (by omega) (by omega), he]
  have hs : (sizeOf 74).run Tryz.prog w = .ok 2 w := by simp [sizeOf, typeInfo, hi, hs]
  rw [hs]
  rfl
section
set_option maxRecDepth 100000
set_option maxHeartbeats 8000000
set_option linter.unusedVariables false
variable (M : MB) (vb : Value) (fa : Option Addr) (N fc : Nat) (f : Nat → Int) (n g a q : Int) (w : World)
theorem Samples_ok (hs : Sl .u8 w (.slice fa N fc) N f) (hf : ∀ i, 0 ≤ f i ∧ f i ≤ 255) (hc : cE n g a = 0) (hN : N = 0 ∨ (N : Int) = zV n) (hb : M.at w vb) (he : M.e = 0) (ha : M.ad = a) (hq : ¬ (q < 1 ∨ 31 < q)) (hv : pV M.kd = true → Mo.vE n g a M.x M.y = 0) :
    Calls Tryz.prog 15 #[.slice fa N fc, sp n g a, mv M vb, .int .i64 q] w fun e w' => ∃ v, e = .returned (.tuple #[v, .int .i64 0]) ∧ Six w.heap.size w' v (smp M n g a (aF N f) q) ∧ Below w.heap.size w w' := by
  have HS := Lib.hid (fun V => size_any n g a V)
  rw [hc, show zS n g a = zV n from if_pos hc] at HS
  have HA := Lib.hid hb
  have HSl := Lib.hid hs
  have HC := Lib.hid (fun V h => mCheck_any M vb V h)
  rw [he] at HC
  have hxy := ok_xy he
  have hv0 : Mo.vE n g a M.x M.y = 0 := by
    cases h : pV M.kd
    · obtain ⟨e1, e2⟩ := hxy.2.2.1 h
      rw [e1, e2]; exact v00 hc
    · exact hv h
  have HF := Lib.hid (fun V => Mo.Fits_any n g a M.x M.y V (wf_small hxy.1) (wf_small hxy.2.1))
  rw [hv0] at HF
  have HK := Lib.hid (fun V => Of_any M.kd V)
  unfold parts at HK
  have HAh := Lib.hid (fun V h => ahead_any fa N fc f n V h)
  have hfa : ∀ i, 0 ≤ aF N f i ∧ aF N f i ≤ 255 := fun i => by
    unfold aF
    split
    · show (0 : Int) ≤ 128 ∧ (128 : Int) ≤ 255; omega
    · exact hf i
  have haN : ((aN N n : Nat) : Int) = zV n := by
    unfold aN
    rcases hN with h | h
    · rw [if_pos h]; rcases cE_n hc with rfl | rfl <;> rfl
    · rw [if_neg (fun h0 => by subst h0; rcases cE_n hc with rfl | rfl <;> simp [zV] at h)]; exact h
  have hqq := qq_ok he hq
  have hok3 := (ok_parts he).2.2
  -- what the closures, residues and sums tell
  have HCH0 : Hid (∀ i : Nat, i < 6 → ∀ (V : World) (p15 p4 p5 p6 : Nat) (vf : Value), Sees V p4 p5 p6 n g a M.ad M.kd M.qt M.x M.y M.pt vb vf (aN N n) (aF N f) →
      V.cell? ⟨p15, 0, none⟩ = some (.func (.func 47) #[] #[.pointer (some ⟨p4, 0, none⟩), .pointer (some ⟨p5, 0, none⟩), .pointer (some ⟨p6, 0, none⟩)]) →
      (pI M.kd = true → Calls Tryz.prog 51 #[.int .i64 ((i : Int) + 1)] V fun e w' => ∃ v, e = .returned v ∧ Res .u8 V.heap.size w' v 64 (pP M n g a (aF N f) i) ∧ Below V.heap.size V w')
      ∧ (pI M.kd = false → pF M.kd = true → Calls Tryz.prog 49 #[.int .i64 ((i : Int) + 1), .pointer (some ⟨p15, 0, none⟩)] V fun e w' => ∃ v, e = .returned v ∧ Res .u8 V.heap.size w' v 64 (pP M n g a (aF N f) i) ∧ Below V.heap.size V w')
      ∧ (pI M.kd = false → pF M.kd = false → Calls Tryz.prog 47 #[.int .i64 ((i : Int) + 1), .pointer (some ⟨p4, 0, none⟩), .pointer (some ⟨p5, 0, none⟩), .pointer (some ⟨p6, 0, none⟩)] V fun e w' => ∃ v, e = .returned v ∧ Res .u8 V.heap.size w' v 64 (pP M n g a (aF N f) i) ∧ Below V.heap.size V w')) := Lib.hid (fun i hi V p15 p4 p5 p6 vf hS h15 => by
    refine ⟨fun h1 => ?_, fun h1 h2 => ?_, fun h1 h2 => ?_⟩
    · rw [show pP M n g a (aF N f) i = fun _ => 0 by unfold pP; rw [if_pos h1]]
      exact black_any _ V
    · rw [show pP M n g a (aF N f) i = Lo.filt (Mo.fetF (aF N f) n g a ((i : Int) + 1) M.x M.y) by unfold pP; rw [if_neg (by simp [h1]), if_pos h2]]
      exact softened_any _ p15 p4 p5 p6 n g a _ _ _ _ _ _ _ vf _ _ V hS h15 (by omega) hc haN hv0 hxy.1 hxy.2.1 (fun t => fetF_bd hfa _ _ _ _ _ _ t)
    · rw [show pP M n g a (aF N f) i = Mo.fetF (aF N f) n g a ((i : Int) + 1) M.x M.y by unfold pP; rw [if_neg (by simp [h1]), if_neg (by simp [h2])]]
      exact fetched_any _ p4 p5 p6 n g a _ _ _ _ _ _ _ vf _ _ V hS (by omega) hc haN hv0 hxy.1 hxy.2.1)
  have HRS : Hid (∀ (V : World) (j : Nat), j < M.m → Pl V (.slice (M.q j) (M.nn j) (M.cc j)) (M.nn j) (M.r j) (M.l j) → M.nn j ≤ 1000 →
      Calls Tryz.prog 53 #[bv (M.dc j) (M.q j) (M.nn j) (M.cc j), .int .i64 (qq M q), .bool (pI M.kd)] V fun e w' => ∃ v, e = .returned (.tuple #[v, .int .i64 0]) ∧ Res .i64 V.heap.size w' v 64 (Co.invC (wF (M.dc j) (M.nn j) (M.r j) (M.l j) (pI M.kd) (qq M q))) ∧ Below V.heap.size V w') := Lib.hid (fun V j hj hp hn => by
    have := Residue_any (M.dc j) (M.q j) (M.nn j) (M.cc j) (M.r j) (M.l j) (pI M.kd) (qq M q) hn V hp
    have e0 : rsE (M.dc j) (M.nn j) (M.r j) (M.l j) (pI M.kd) (qq M q) = 0 := by
      unfold rsE
      rw [if_neg (by rw [hok3 j hj]; simp), if_neg (by omega)]
    rw [e0, show rsN (M.dc j) (M.nn j) (M.r j) (M.l j) (pI M.kd) (qq M q) = 64 from if_pos e0] at this
    exact this)
  have HAD : Hid (∀ (V : World) (i j : Nat) (va vr : Value), Sl .u8 V va 64 (pP M n g a (aF N f) i) → Sl .i64 V vr 64 (Co.invC (wF (M.dc j) (M.nn j) (M.r j) (M.l j) (pI M.kd) (qq M q))) →
      Calls Tryz.prog 54 #[va, vr] V fun e w' => ∃ v, e = .returned (.tuple #[v, .int .i64 0]) ∧ Res .u8 V.heap.size w' v 64 (Pa.addF (pP M n g a (aF N f) i) (Co.invC (wF (M.dc j) (M.nn j) (M.r j) (M.l j) (pI M.kd) (qq M q)))) ∧ Below V.heap.size V w') := Lib.hid (fun V i j va vr h1 h2 => by
    have := Pa.Add_any va vr 64 64 _ _ V h1 h2 (fun t _ => pP_bd M n g a hfa i t)
    have e0 : Pa.addE 64 64 (Co.invC (wF (M.dc j) (M.nn j) (M.r j) (M.l j) (pI M.kd) (qq M q))) = 0 := by
      unfold Pa.addE
      have hr : Pa.okR (Co.invC (wF (M.dc j) (M.nn j) (M.r j) (M.l j) (pI M.kd) (qq M q))) 64 := fun t ht => by
        have := inv_small _ (ok_v _ (wF_bd (M.dc j) (M.nn j) (M.r j) (M.l j) (pI M.kd) (qq M q) hqq.1)) t ht
        omega
      rw [if_neg (by omega), if_pos hr]
    rw [e0, show Pa.addN 64 64 (Co.invC (wF (M.dc j) (M.nn j) (M.r j) (M.l j) (pI M.kd) (qq M q))) = 64 from if_pos e0] at this
    exact this)
  obtain ⟨J, hJ⟩ : ∃ J, jj M.pt = J := ⟨_, rfl⟩
  have J0 : Hid (J 0 = 0) := Lib.hid (by rw [← hJ]; rfl)
  have HJL : Hid (∀ i : Nat, i < 6 → hasP M.pt ((i : Int) + 1) = true → J i < M.m) := Lib.hid (by rw [← hJ]; exact fun i => jj_lt he i)
  have HJ1 : Hid (∀ i : Nat, hasP M.pt ((i : Int) + 1) = true → J (i + 1) = J i + 1) := Lib.hid (by rw [← hJ]; exact fun i => jj_step M.pt i)
  have HJ2 : Hid (∀ i : Nat, hasP M.pt ((i : Int) + 1) = false → J (i + 1) = J i) := Lib.hid (by rw [← hJ]; exact fun i => jj_stay M.pt i)
  obtain ⟨PP, hPP⟩ : ∃ PP, pP M n g a (aF N f) = PP := ⟨_, rfl⟩
  obtain ⟨Q, hQQ⟩ : ∃ Q, qq M q = Q := ⟨_, rfl⟩
  obtain ⟨RJ, hRJ⟩ : ∃ RJ : Nat → Nat → Int, (fun j => Co.invC (wF (M.dc j) (M.nn j) (M.r j) (M.l j) (pI M.kd) Q)) = RJ := ⟨_, rfl⟩
  have hRJ' : ∀ j, Co.invC (wF (M.dc j) (M.nn j) (M.r j) (M.l j) (pI M.kd) Q) = RJ j := fun j => by rw [← hRJ]
  obtain ⟨SS, hSS⟩ : ∃ SS, smp M n g a (aF N f) q = SS := ⟨_, rfl⟩
  have HSY : Hid (∀ i : Nat, hasP M.pt ((i : Int) + 1) = true → SS i = Pa.addF (PP i) (RJ (J i))) := Lib.hid (fun i h => by
    rw [← hSS]; unfold smp; rw [if_pos h, hPP]; unfold rR; rw [hQQ, hJ, hRJ'])
  have HSN : Hid (∀ i : Nat, hasP M.pt ((i : Int) + 1) = false → SS i = PP i) := Lib.hid (fun i h => by
    rw [← hSS]; unfold smp; rw [if_neg (by simp [h]), hPP])
  rw [hPP] at HCH0 HAD
  rw [hQQ] at HRS HAD
  simp only [hRJ'] at HRS HAD
  rw [hSS]
  have HQ := Lib.hid hQQ
  unfold qq at HQ
  have hnz := hN
  obtain ⟨Z, hZ⟩ : ∃ Z, zV n = Z := ⟨_, rfl⟩
  rw [hZ] at HS hnz
  have t3 : (M.ad != a) = false := by simp [ha]
  have q1 : ¬ q < 1 := by omega
  have q2 : ¬ 31 < q := by omega
  obtain ⟨zI, hI⟩ : ∃ z, pI M.kd = z := ⟨_, rfl⟩
  obtain ⟨zQ, hzQ⟩ : ∃ z, pQ M.kd = z := ⟨_, rfl⟩
  obtain ⟨zV', hzV⟩ : ∃ z, pV M.kd = z := ⟨_, rfl⟩
  obtain ⟨zF, hzF⟩ : ∃ z, pF M.kd = z := ⟨_, rfl⟩
  obtain ⟨zC, hzC⟩ : ∃ z, pC M.kd = z := ⟨_, rfl⟩
  rw [hI, hzQ, hzV, hzF, hzC] at HK
  rw [hI] at HRS HCH0
  rw [hzF] at HCH0
  rw [hzQ] at HQ
  obtain ⟨F0, hF0⟩ : ∃ F, aF N f = F := ⟨_, rfl⟩
  obtain ⟨N0, hN0⟩ : ∃ x, aN N n = x := ⟨_, rfl⟩
  rw [hF0, hN0] at HCH0 HAh
  have hN0p : 0 < N0 := by
    have h1 := haN
    rw [hN0] at h1
    rcases cE_n hc with rfl | rfl <;> simp [zV] at h1 <;> omega
  have hbl : 0 < N → ∀ x, fa = some x → x.block < w.heap.size := fun h0 => sl_block hs h0
  have HA0 := Lib.hid hb
  clear hJ hPP hQQ hRJ hRJ' hSS hZ hI hzQ hzV hzF hzC hF0 hN0 he hb ha hq hv hv0 hxy hfa haN hqq hok3 hs hf hN hc
  have HB := Lib.hid ((((Below.refl w.heap.size w).alloc (Nat.le_refl _) (.cells #[.slice fa N fc] 30)).alloc (by simp) (.cells #[.int .i64 n, .int .i64 g, .int .i64 a] 28)).alloc (by simp; omega) (.cells #[.int .i64 M.ad, .int .i64 M.kd, .int .i64 M.qt, .int .i64 M.x, .int .i64 M.y, .int .i64 M.pt, vb] 24))
  have H4 : Hid (At _ _ _ _) := Lib.hid (((At.new w #[.slice fa N fc] 30).below ((Below.refl _ _).alloc (Nat.le_refl _) (.cells #[.int .i64 n, .int .i64 g, .int .i64 a] 28))).below ((Below.refl _ _).alloc (Nat.le_refl _) (.cells #[.int .i64 M.ad, .int .i64 M.kd, .int .i64 M.qt, .int .i64 M.x, .int .i64 M.y, .int .i64 M.pt, vb] 24)))
  have H5 : Hid (At _ _ _ _) := Lib.hid ((At.new (w.alloc (.cells #[.slice fa N fc] 30)) #[.int .i64 n, .int .i64 g, .int .i64 a] 28).below ((Below.refl _ _).alloc (Nat.le_refl _) (.cells #[.int .i64 M.ad, .int .i64 M.kd, .int .i64 M.qt, .int .i64 M.x, .int .i64 M.y, .int .i64 M.pt, vb] 24)))
  have H6 : Hid (At _ _ _ _) := Lib.hid (At.new ((w.alloc (.cells #[.slice fa N fc] 30)).alloc (.cells #[.int .i64 n, .int .i64 g, .int .i64 a] 28)) #[.int .i64 M.ad, .int .i64 M.kd, .int .i64 M.qt, .int .i64 M.x, .int .i64 M.y, .int .i64 M.pt, vb] 24)
  simp only [World.size_alloc] at H5 H6
  have k0 := H5.out.cell 0 _ rfl
  have k1 := H5.out.cell 1 _ rfl
  have k2 := H5.out.cell 2 _ rfl
  go_enter Tryz.func15, Tryz.ntmps15
  go_wp2_with fail
  refine (HS.out _).mono ?_
  rintro e w1 ⟨rfl, b1⟩
  have H4 := Lib.hid (H4.out.below b1)
  have H5 := Lib.hid (H5.out.below b1)
  have H6 := Lib.hid (H6.out.below b1)
  have HB := Lib.hid (chain HB.out b1)
  have HA := Lib.hid ((HA.out.below HB.out))
  have HSl := Lib.hid (HSl.out.below HB.out)
  clear b1 k0 k1 k2
  go_upto_region 4 with fail
  go_cut [34] (fun u wx => u = .bool false ∧ Hid (At wx w.heap.size #[.slice fa N fc] 30) ∧ Hid (At wx (w.heap.size + 1) #[.int .i64 n, .int .i64 g, .int .i64 a] 28) ∧ Hid (At wx (w.heap.size + 1 + 1) #[.int .i64 M.ad, .int .i64 M.kd, .int .i64 M.qt, .int .i64 M.x, .int .i64 M.y, .int .i64 M.pt, vb] 24) ∧ Hid (Below w.heap.size w wx) ∧ Hid (M.at wx vb) ∧ Hid (Sl .u8 wx (.slice fa N fc) N f))
  case first =>
    have c4 := H4.out.cell 0 _ rfl
    have k0 := H6.out.cell 0 _ rfl
    have k1 := H6.out.cell 1 _ rfl
    have k2 := H6.out.cell 2 _ rfl
    have k3 := H6.out.cell 3 _ rfl
    have k4 := H6.out.cell 4 _ rfl
    have k5 := H6.out.cell 5 _ rfl
    have k6 := H6.out.cell 6 _ rfl
    rcases hnz with h0 | h0
    · have t2 : ¬ (0 : Int) < (N : Int) := by omega
      clear h0
      go_wp2_with fail
      refine (HC.out _ HA.out).mono ?_
      rintro e w2 ⟨rfl, b2⟩
      have H4 := Lib.hid (H4.out.below b2)
      have H5 := Lib.hid (H5.out.below b2)
      have H6 := Lib.hid (H6.out.below b2)
      have HB := Lib.hid (chain HB.out b2)
      have HA := Lib.hid ((HA.out.below b2))
      have HSl := Lib.hid (HSl.out.below b2)
      clear b2 c4 k0 k1 k2 k3 k4 k5 k6
      have k0 := H6.out.cell 0 _ rfl
      have s2 := H5.out.cell 2 _ rfl
      go_wp2_with fail
      go_meet
      exact ⟨rfl, H4, H5, H6, HB, HA, HSl⟩
    · by_cases hz : N = 0
      · have t2 : ¬ (0 : Int) < (N : Int) := by omega
        clear hz h0
        go_wp2_with fail
        refine (HC.out _ HA.out).mono ?_
        rintro e w2 ⟨rfl, b2⟩
        have H4 := Lib.hid (H4.out.below b2)
        have H5 := Lib.hid (H5.out.below b2)
        have H6 := Lib.hid (H6.out.below b2)
        have HB := Lib.hid (chain HB.out b2)
        have HA := Lib.hid ((HA.out.below b2))
        have HSl := Lib.hid (HSl.out.below b2)
        clear b2 c4 k0 k1 k2 k3 k4 k5 k6
        have k0 := H6.out.cell 0 _ rfl
        have s2 := H5.out.cell 2 _ rfl
        go_wp2_with fail
        go_meet
        exact ⟨rfl, H4, H5, H6, HB, HA, HSl⟩
      · have t1 : ((N : Int) != Z) = false := by simp [h0]
        have t2 : (0 : Int) < (N : Int) := by omega
        clear h0 hz
        go_wp2_with fail
        refine (HC.out _ HA.out).mono ?_
        rintro e w2 ⟨rfl, b2⟩
        have H4 := Lib.hid (H4.out.below b2)
        have H5 := Lib.hid (H5.out.below b2)
        have H6 := Lib.hid (H6.out.below b2)
        have HB := Lib.hid (chain HB.out b2)
        have HA := Lib.hid ((HA.out.below b2))
        have HSl := Lib.hid (HSl.out.below b2)
        clear b2 c4 k0 k1 k2 k3 k4 k5 k6
        have k0 := H6.out.cell 0 _ rfl
        have s2 := H5.out.cell 2 _ rfl
        go_wp2_with fail
        go_meet
        exact ⟨rfl, H4, H5, H6, HB, HA, HSl⟩
  case rest =>
  obtain ⟨rfl, H4, H5, H6, HB, HA, HSl⟩ := hcut
  clear hnz HC HS
  have k1 := H6.out.cell 1 _ rfl
  go_wp2_with fail
  refine (HK.out _).mono ?_
  rintro e w3 ⟨rfl, b3⟩
  have b4 := (Below.refl w3.heap.size w3).alloc (Nat.le_refl _) (.cells #[.bool zI, .bool zQ, .bool zV', .bool zF, .bool zC] 67)
  have HP := Lib.hid (At.new w3 #[.bool zI, .bool zQ, .bool zV', .bool zF, .bool zC] 67)
  have H4 := Lib.hid ((H4.out.below b3).below b4)
  have H5 := Lib.hid ((H5.out.below b3).below b4)
  have H6 := Lib.hid ((H6.out.below b3).below b4)
  have HA := Lib.hid ((HA.out.below b3).below b4)
  have HSl := Lib.hid ((HSl.out.below b3).below b4)
  have HB := Lib.hid (chain (chain HB.out b3) b4)
  clear b3 b4 k1 HK t3 q1 q2
  have l12 := HP.out.lt
  have z3 := HB.out.size
  have lz : w.heap.size + 2 < w3.heap.size := by
    have h1 := H6.out.lt
    simp only [World.size_alloc] at h1
    by_cases h2 : w.heap.size + 2 = w3.heap.size
    · have e1 : (w3.alloc (.cells #[.bool zI, .bool zQ, .bool zV', .bool zF, .bool zC] 67)).heap[w3.heap.size]? = _ := HP.out
      have e2 : (w3.alloc (.cells #[.bool zI, .bool zQ, .bool zV', .bool zF, .bool zC] 67)).heap[w.heap.size + 2]? = _ := H6.out
      rw [h2, e1] at e2
      cases e2
    · omega
  go_upto_region 9 with fail
  generalize w3.alloc (.cells #[.bool zI, .bool zQ, .bool zV', .bool zF, .bool zC] 67) = W4 at *
  generalize w3.heap.size = p12 at *
  have k3 := H6.out.cell 3 _ rfl
  have k4 := H6.out.cell 4 _ rfl
  have s0 := H5.out.cell 0 _ rfl
  have s1 := H5.out.cell 1 _ rfl
  have s2 := H5.out.cell 2 _ rfl
  have p2 := HP.out.cell 2 _ rfl
  go_upto_if 70 with fail
  go_cut [8, 9] (fun u v wx => u = .slice none 0 0 ∧ v = .int .i64 0 ∧ Hid (Below W4.heap.size W4 wx))
  case first =>
    cases zV' with
    | true =>
      go_wp2_with fail
      refine (HF.out _).mono ?_
      rintro e w5 ⟨rfl, b5⟩
      have B5 := Lib.hid b5
      clear b5
      go_wp2_with fail
      go_meet
      exact ⟨rfl, rfl, B5⟩
    | false =>
      go_wp2_with fail
      go_meet
      exact ⟨rfl, rfl, Lib.hid (Below.refl _ _)⟩
  case rest =>
  obtain ⟨rfl, rfl, B5⟩ := hcut
  have H4 := Lib.hid (H4.out.below B5.out)
  have H5 := Lib.hid (H5.out.below B5.out)
  have H6 := Lib.hid (H6.out.below B5.out)
  have HP := Lib.hid (HP.out.below B5.out)
  have HA := Lib.hid (HA.out.below B5.out)
  have HSl := Lib.hid (HSl.out.below B5.out)
  have HB := Lib.hid (chain HB.out B5.out)
  clear B5 k3 k4 s0 s1 s2 p2 HF
  have k2 := H6.out.cell 2 _ rfl
  have p1 := HP.out.cell 1 _ rfl
  go_upto_if 81 with fail
  go_cut [3] (fun u wx => u = .int .i64 Q ∧ wx = wc)
  case first =>
    have HQ := HQ.out
    cases zQ with
    | true => (go_wp2_with fail; go_meet; exact ⟨by rw [← HQ]; rfl, rfl⟩)
    | false => (go_wp2_with fail; go_meet; exact ⟨by rw [← HQ]; rfl, rfl⟩)
  case rest =>
  obtain ⟨rfl, rfl⟩ := hcut
  clear HQ k2 p1
  have c4 := H4.out.cell 0 _ rfl
  have f4 : _ := frozen_of_row H4.out 0
  have s0 := H5.out.cell 0 _ rfl
  go_wp2_with fail
  refine (HAh.out _ HSl.out).mono ?_
  rintro e w6 ⟨vf, rfl, hSl, hd, b6⟩
  have H4 := Lib.hid (H4.out.below b6)
  have H5 := Lib.hid (H5.out.below b6)
  have H6 := Lib.hid (H6.out.below b6)
  have l12 := HP.out.lt
  have HP := Lib.hid (HP.out.below b6)
  have lB := H4.out.lt
  have lW : w.heap.size < wc.heap.size := by have := HB.out.size; omega
  have HB := Lib.hid (chain HB.out b6)
  have g6 := Kd.grown_cell w6 w.heap.size 0 vf
  have HPic := Lib.hid (ahead_kept hSl hd g6 lW (fun h0 x e => by have := hbl h0 x e; omega) hN0p)
  obtain ⟨vq, vc, hvf, _, _, _⟩ := id HPic.out
  subst hvf
  have H4' := Lib.hid (At.set0 (v := .slice vq N0 vc) H4.out)
  have H5' := Lib.hid (H5.out.kept g6 (fun e => by have := Option.some.inj e; omega))
  have H6' := Lib.hid (H6.out.kept g6 (fun e => by have := Option.some.inj e; omega))
  have HP' := Lib.hid (HP.out.kept g6 (fun e => by have := Option.some.inj e; omega))
  have HB' := Lib.hid (HB.out.grown g6 HB.out.size (fun q e => by have := Option.some.inj e; omega))
  clear b6 hSl hd c4 f4 s0 HA HSl HAh g6 lB
  have c4 := H4.out.cell 0 _ rfl
  have f4 : w6.frozen? ⟨w.heap.size, 0, none⟩ = false := frozen_of_row H4.out 0
  go_upto_region 16 with fail
  clear c4 f4 H4 H5 H6 HP HB
  generalize w6.setCell ⟨w.heap.size, 0, none⟩ (.slice vq N0 vc) = W7 at *
  have l7 := HP'.out.lt
  go_upto_region 17 with fail
  have P15 := Lib.hid (At.new W7 #[.func (.func 47) #[] #[.pointer (some ⟨w.heap.size, 0, none⟩), .pointer (some ⟨w.heap.size + 1, 0, none⟩), .pointer (some ⟨w.heap.size + 1 + 1, 0, none⟩)]] 51)
  have b8 := (Below.refl W7.heap.size W7).alloc (Nat.le_refl _) (.cells #[.func (.func 47) #[] #[.pointer (some ⟨w.heap.size, 0, none⟩), .pointer (some ⟨w.heap.size + 1, 0, none⟩), .pointer (some ⟨w.heap.size + 1 + 1, 0, none⟩)]] 51)
  have SEE : Hid (Sees _ w.heap.size (w.heap.size + 1) (w.heap.size + 1 + 1) n g a M.ad M.kd M.qt M.x M.y M.pt vb (.slice vq N0 vc) N0 F0) := Lib.hid ⟨H4'.out.below b8, H5'.out.below b8, H6'.out.below b8, HPic.out.below b8⟩
  have P12 := Lib.hid (HP'.out.below b8)
  have HB8 := Lib.hid (chain HB'.out b8)
  have HBl : Hid (Bsl _ vb M.m M.dc M.q M.nn M.cc M.r M.l) := Lib.hid (HA0.out.below HB8.out)
  clear b8 H4' H5' H6' HP' HB' HPic HA0 hN0p hbl
  have lz15 : p12 < W7.heap.size := l7
  generalize W7.alloc (.cells #[.func (.func 47) #[] #[.pointer (some ⟨w.heap.size, 0, none⟩), .pointer (some ⟨w.heap.size + 1, 0, none⟩), .pointer (some ⟨w.heap.size + 1 + 1, 0, none⟩)]] 51) = W8 at *
  generalize W7.heap.size = p15 at *
  have p0 := P12.out.cell 0 _ rfl
  have p3 := P12.out.cell 3 _ rfl
  have q15 := P15.out.cell 0 _ rfl
  have zw8 := HB8.out.size
  obtain ⟨qa, ca, hvb, _, _, _⟩ := id HBl.out
  subst hvb
  have m6 := SEE.out.m.cell 6 _ rfl
  cases zI with
  | true =>
    have HCH := Lib.hid (fun k hk V hS (hA : At V p15 #[.func (.func 47) #[] #[.pointer (some ⟨w.heap.size, 0, none⟩), .pointer (some ⟨w.heap.size + 1, 0, none⟩), .pointer (some ⟨w.heap.size + 1 + 1, 0, none⟩)]] 51) => (HCH0.out k hk V p15 _ _ _ (.slice vq N0 vc) hS (hA.cell 0 _ rfl)).1 rfl)
    go_upto_region 27 with fail
    obtain ⟨i0, hi, hz0, hz1, hz2⟩ := info_parts info_bytes
    go_wp2_with fail
    go_loopw [101, 19, 20] (fun x o b wr => ∃ (k R : Nat) (V : Nat → Value), k ≤ 6 ∧ x = .int .i64 k ∧ Hid (R = M.m - J k) ∧ Hid (Out wr.heap.size W8.heap.size wr o k V SS) ∧ Hid (Bsl W8 b R (fun t => M.dc (t + J k)) (fun t => M.q (t + J k)) (fun t => M.nn (t + J k)) (fun t => M.cc (t + J k)) (fun t => M.r (t + J k)) (fun t => M.l (t + J k))) ∧ Hid (Below W8.heap.size W8 wr)) (fun x _ _ _ => 6 - (intOf x).toNat)
    case atStart => exact ⟨0, M.m, fun _ => undef, by omega, rfl, Lib.hid (by rw [J0.out]; rfl), Lib.hid ⟨World.ownsRow_nil _ _ _ _, fun i hi => by omega, fun _ => rfl, Nat.le_refl _, fun i hi => by omega, fun i hi => by omega⟩, Lib.hid (by rw [J0.out]; exact HBl.out), Lib.hid (Below.refl _ _)⟩
    case round =>
      obtain ⟨k, R, V, hk, rfl, HRN, HO, HBs, HBB⟩ := hrel
      by_cases hk6 : k < 6
      · have kb : (k : Int) < 6 := by omega
        have ek : IntKind.i64.wrap ((k : Int) + 1) = (k : Int) + 1 := IntWalk.i64_in _ (by omega)
        have HSe := Lib.hid (SEE.out.below HBB.out)
        have HP := Lib.hid (P12.out.below HBB.out)
        have HCl := Lib.hid (P15.out.below HBB.out)
        have CALL := Lib.hid (HCH.out k hk6 wr HSe.out HCl.out)
        have sz8 := HBB.out.size
        have szr := sz8
        go_upto_region 31 with (go_at_call 51; refine CALL.out.mono ?_; rintro e w1 ⟨v1, rfl, hR, b1⟩; have HR := Lib.hid hR; have HO := Lib.hid (HO.out.below b1); have HBB := Lib.hid (chain HBB.out b1); clear hR b1)
        clear HSe HP HCl CALL sz8
        have HSe := Lib.hid (SEE.out.below HBB.out)
        have m5 := HSe.out.m.cell 5 _ rfl
        by_cases hh : hasP M.pt ((k : Int) + 1) = true
        · have hlt := HJL.out k hk6 hh
          have HJS := Lib.hid (HJ1.out k hh)
          have HSM := Lib.hid (HSY.out k hh)
          have HH := Lib.hid hh
          obtain ⟨R', hR'⟩ : ∃ R', R = R' + 1 := ⟨R - 1, by have := HRN.out; omega⟩
          subst hR'
          obtain ⟨bb, bo, bc, rfl, n1, n2, d1, d2, d3, d4, d5⟩ := Bsl.head HBs.out
          simp only [Nat.zero_add] at d1 d2 d3 d4
          have D5 := Lib.hid (d5 _ rfl)
          have NXT := fun w' => slice_one bb bo R' bc w'
          obtain ⟨nxt, hnx⟩ : ∃ x, x = sliced (some ⟨bb, bo, none⟩) 1 (R' + 1) bc 2 := ⟨_, rfl⟩
          rw [← hnx] at NXT D5
          have D3 := Lib.hid d3
          have hlb := World.block_lt_of_cell? _ _ d1
          have D1 := Lib.hid d1
          have D2 := Lib.hid d2
          clear d1 d2 d3 d5 hnx hh HBs
          have nb : (0 : Int) < ((R' : Int) + 1) := by omega
          have nb2 : (1 : Int) ≤ ((R' : Int) + 1) := by omega
          go_upto_region 32 with (go_at_call 52; refine (Has_any _ _ _).mono ?_; rintro e w2 ⟨rfl, b1⟩; rw [HH.out]; have HR := Lib.hid (HR.out.below b1); have HO := Lib.hid (HO.out.below b1); have HBB := Lib.hid (chain HBB.out b1); clear b1)
          clear HSe m5
          have HBB' := Lib.hid (HBB.out.drew)
          have HP := Lib.hid (P12.out.below HBB'.out)
          have p0 := HP.out.cell 0 _ rfl
          have e1 := (HBB'.out.cell (p := ⟨bb, bo, none⟩) hlb).trans D1.out
          have e2 := (HBB'.out.cell (p := ⟨bb, bo + 1, none⟩) hlb).trans D2.out
          go_cut [23] (fun u wx => Hid (Res .i64 W8.heap.size wx u 64 (RJ (J k))) ∧ Hid (Res .u8 wr.heap.size wx v1 64 (PP k)) ∧ Hid (Out wr.heap.size W8.heap.size wx u19 k V SS) ∧ Hid (Below W8.heap.size W8 wx))
          case first =>
            have HD3 := Lib.hid (D3.out.below HBB'.out)
            have HRR := Lib.hid (HRS.out _ (J k) hlt HD3.out d4)
            have HR := Lib.hid (HR.out.below (Below.refl _ _).drew)
            have HO := Lib.hid (HO.out.below (Below.refl _ _).drew)
            have sz8 := HBB'.out.size
            go_region_with (go_at_call 53; refine HRR.out.mono ?_; rintro e w3 ⟨v3, rfl, hR3, b3⟩; have HR3 := Lib.hid (Res.base hR3 sz8); have HR4 := Lib.hid (HR.out.below b3); have HO4 := Lib.hid (HO.out.below b3); have HB4 := Lib.hid (chain HBB'.out b3); clear hR3 b3)
            all_goals (go_wp2_with fail; go_meet; exact ⟨HR3, HR4, HO4, HB4⟩)
          case rest =>
          obtain ⟨HR3, HR, HO, HBB⟩ := hcut
          have HADD := Lib.hid (HAD.out wc k (J k) _ _ HR.out.sl HR3.out.sl)
          have sz8 := HBB.out.size
          clear p0 e1 e2 HBB' HP D1 D2 D3
          go_wp2_with (first
            | (go_at_call 54; refine HADD.out.mono ?_; rintro e w4 ⟨v4, rfl, hR4, b4⟩; rcases hR4 with ⟨h0, _⟩ | ⟨g4, c4, rfl, r1, r2, r3, r4, r5⟩; (exact absurd h0 (by decide)); have HG4 : Hid (wr.heap.size ≤ blk (.slice (some ⟨g4, 0, none⟩) 64 c4)) := Lib.hid (Nat.le_trans HO.out.le r1); have HV : Hid (Res .u8 W8.heap.size w4 (.slice (some ⟨g4, 0, none⟩) 64 c4) 64 (SS k)) := Lib.hid (by rw [HSM.out]; exact .inr ⟨g4, c4, rfl, by omega, r2, r3, r4, r5⟩); have HO := Lib.hid (HO.out.below b4); have HBB := Lib.hid (chain HBB.out b4); have sz8 := HBB.out.size; clear b4 r1 r2 r3 r4 r5)
            | (at_builtin; refine wpList_append_own _ rfl _ _ 33 rfl W8.heap.size 30 i0 (.slice none 0 0) 1 24 Tryz.underlying33 hi hz0 hz1 hz2 rfl (by decide) _ _ _ rfl (HO.out.own.alloc _) ⟨w4.heap.size, 0, none⟩ 1 1 [.slice (some ⟨g4, 0, none⟩) 64 c4] rfl rfl (cell_one_new _ _ _) (by simp [Value.oneCell']) (by unfold maxLen; omega) (by omega) (by simp; omega) ?_; intro v' w5 hown2 hgr hnil))
          have HB5 : Hid (Below W8.heap.size W8 w5) := Lib.hid ((HBB.out.alloc sz8 _).grown hgr (by simp; omega) (fun q hq => (HO.out.own.lt q hq).1))
          have HO5 := Lib.hid (HO.out.snoc HV.out HG4.out hown2 hgr)
          clear hown2 hgr hnil
          go_roundw
          case rel =>
            refine ⟨k + 1, R', fun i => if i = k then .slice (some ⟨g4, 0, none⟩) 64 c4 else V i, by omega, by simp, Lib.hid ?_, HO5, Lib.hid ?_, HB5⟩
            · have h1 := HRN.out; have h2 := HJS.out; omega
            · have e : ∀ t, t + 1 + J k = t + (J k + 1) := fun t => by omega
              have h1 := D5.out
              simp only [e] at h1
              rw [HJS.out]
              exact h1
          case measure => simp [intOf]; omega
        · have hh' : hasP M.pt ((k : Int) + 1) = false := by simpa using hh
          have HJS := Lib.hid (HJ2.out k hh')
          have HSM := Lib.hid (HSN.out k hh')
          have HH := Lib.hid hh'
          clear hh hh'
          rcases HR.out with ⟨h0, _⟩ | ⟨g4, c4, rfl, r1, r2, r3, r4, r5⟩
          · exact absurd h0 (by decide)
          have HG4 : Hid (wr.heap.size ≤ blk (.slice (some ⟨g4, 0, none⟩) 64 c4)) := Lib.hid r1
          clear r1 r2 r3 r4 r5
          go_wp2_with (first
            | (go_at_call 52; refine (Has_any _ _ _).mono ?_; rintro e w2 ⟨rfl, b1⟩; rw [HH.out]; have HR := Lib.hid (HR.out.below b1); have HO := Lib.hid (HO.out.below b1); have HBB := Lib.hid (chain HBB.out b1); have sz8 := HBB.out.size; clear b1)
            | (at_builtin; refine wpList_append_own _ rfl _ _ 33 rfl W8.heap.size 30 i0 (.slice none 0 0) 1 24 Tryz.underlying33 hi hz0 hz1 hz2 rfl (by decide) _ _ _ rfl (HO.out.own.alloc _) ⟨w2.heap.size, 0, none⟩ 1 1 [.slice (some ⟨g4, 0, none⟩) 64 c4] rfl rfl (cell_one_new _ _ _) (by simp [Value.oneCell']) (by unfold maxLen; omega) (by omega) (by simp; omega) ?_; intro v' w5 hown2 hgr hnil))
          have HB5 : Hid (Below W8.heap.size W8 w5) := Lib.hid ((HBB.out.alloc sz8 _).grown hgr (by simp; omega) (fun q hq => (HO.out.own.lt q hq).1))
          have HO5 := Lib.hid (HO.out.snoc (by rw [HSM.out]; exact Res.base HR.out szr) HG4.out hown2 hgr)
          clear hown2 hgr hnil
          go_roundw
          case rel =>
            refine ⟨k + 1, R, fun i => if i = k then .slice (some ⟨g4, 0, none⟩) 64 c4 else V i, by omega, by simp, Lib.hid ?_, HO5, Lib.hid ?_, HB5⟩
            · rw [HJS.out]; exact HRN.out
            · rw [HJS.out]
              exact HBs.out
          case measure => simp [intOf]; omega
      · have hk7 : k = 6 := by omega
        have kb : ¬ (k : Int) < 6 := by omega
        clear hk hk6
        go_wp2_with fail
        go_ret2
        subst hk7
        exact ⟨_, rfl, HO.out.six HB8.out.size, chain HB8.out HBB.out⟩
  | false =>
    cases zF with
    | true =>
      have HCH := Lib.hid (fun k hk V hS (hA : At V p15 #[.func (.func 47) #[] #[.pointer (some ⟨w.heap.size, 0, none⟩), .pointer (some ⟨w.heap.size + 1, 0, none⟩), .pointer (some ⟨w.heap.size + 1 + 1, 0, none⟩)]] 51) => (HCH0.out k hk V p15 _ _ _ (.slice vq N0 vc) hS (hA.cell 0 _ rfl)).2.1 rfl rfl)
      go_upto_region 27 with fail
      obtain ⟨i0, hi, hz0, hz1, hz2⟩ := info_parts info_bytes
      go_wp2_with fail
      go_loopw [101, 19, 20] (fun x o b wr => ∃ (k R : Nat) (V : Nat → Value), k ≤ 6 ∧ x = .int .i64 k ∧ Hid (R = M.m - J k) ∧ Hid (Out wr.heap.size W8.heap.size wr o k V SS) ∧ Hid (Bsl W8 b R (fun t => M.dc (t + J k)) (fun t => M.q (t + J k)) (fun t => M.nn (t + J k)) (fun t => M.cc (t + J k)) (fun t => M.r (t + J k)) (fun t => M.l (t + J k))) ∧ Hid (Below W8.heap.size W8 wr)) (fun x _ _ _ => 6 - (intOf x).toNat)
      case atStart => exact ⟨0, M.m, fun _ => undef, by omega, rfl, Lib.hid (by rw [J0.out]; rfl), Lib.hid ⟨World.ownsRow_nil _ _ _ _, fun i hi => by omega, fun _ => rfl, Nat.le_refl _, fun i hi => by omega, fun i hi => by omega⟩, Lib.hid (by rw [J0.out]; exact HBl.out), Lib.hid (Below.refl _ _)⟩
      case round =>
        obtain ⟨k, R, V, hk, rfl, HRN, HO, HBs, HBB⟩ := hrel
        by_cases hk6 : k < 6
        · have kb : (k : Int) < 6 := by omega
          have ek : IntKind.i64.wrap ((k : Int) + 1) = (k : Int) + 1 := IntWalk.i64_in _ (by omega)
          have HSe := Lib.hid (SEE.out.below HBB.out)
          have HP := Lib.hid (P12.out.below HBB.out)
          have HCl := Lib.hid (P15.out.below HBB.out)
          have CALL := Lib.hid (HCH.out k hk6 wr HSe.out HCl.out)
          have sz8 := HBB.out.size
          have szr := sz8
          go_upto_region 31 with (go_at_call 49; refine CALL.out.mono ?_; rintro e w1 ⟨v1, rfl, hR, b1⟩; have HR := Lib.hid hR; have HO := Lib.hid (HO.out.below b1); have HBB := Lib.hid (chain HBB.out b1); clear hR b1)
          clear HSe HP HCl CALL sz8
          have HSe := Lib.hid (SEE.out.below HBB.out)
          have m5 := HSe.out.m.cell 5 _ rfl
          by_cases hh : hasP M.pt ((k : Int) + 1) = true
          · have hlt := HJL.out k hk6 hh
            have HJS := Lib.hid (HJ1.out k hh)
            have HSM := Lib.hid (HSY.out k hh)
            have HH := Lib.hid hh
            obtain ⟨R', hR'⟩ : ∃ R', R = R' + 1 := ⟨R - 1, by have := HRN.out; omega⟩
            subst hR'
            obtain ⟨bb, bo, bc, rfl, n1, n2, d1, d2, d3, d4, d5⟩ := Bsl.head HBs.out
            simp only [Nat.zero_add] at d1 d2 d3 d4
            have D5 := Lib.hid (d5 _ rfl)
            have NXT := fun w' => slice_one bb bo R' bc w'
            obtain ⟨nxt, hnx⟩ : ∃ x, x = sliced (some ⟨bb, bo, none⟩) 1 (R' + 1) bc 2 := ⟨_, rfl⟩
            rw [← hnx] at NXT D5
            have D3 := Lib.hid d3
            have hlb := World.block_lt_of_cell? _ _ d1
            have D1 := Lib.hid d1
            have D2 := Lib.hid d2
            clear d1 d2 d3 d5 hnx hh HBs
            have nb : (0 : Int) < ((R' : Int) + 1) := by omega
            have nb2 : (1 : Int) ≤ ((R' : Int) + 1) := by omega
            go_upto_region 32 with (go_at_call 52; refine (Has_any _ _ _).mono ?_; rintro e w2 ⟨rfl, b1⟩; rw [HH.out]; have HR := Lib.hid (HR.out.below b1); have HO := Lib.hid (HO.out.below b1); have HBB := Lib.hid (chain HBB.out b1); clear b1)
            clear HSe m5
            have HBB' := Lib.hid (HBB.out.drew)
            have HP := Lib.hid (P12.out.below HBB'.out)
            have p0 := HP.out.cell 0 _ rfl
            have e1 := (HBB'.out.cell (p := ⟨bb, bo, none⟩) hlb).trans D1.out
            have e2 := (HBB'.out.cell (p := ⟨bb, bo + 1, none⟩) hlb).trans D2.out
            go_cut [23] (fun u wx => Hid (Res .i64 W8.heap.size wx u 64 (RJ (J k))) ∧ Hid (Res .u8 wr.heap.size wx v1 64 (PP k)) ∧ Hid (Out wr.heap.size W8.heap.size wx u19 k V SS) ∧ Hid (Below W8.heap.size W8 wx))
            case first =>
              have HD3 := Lib.hid (D3.out.below HBB'.out)
              have HRR := Lib.hid (HRS.out _ (J k) hlt HD3.out d4)
              have HR := Lib.hid (HR.out.below (Below.refl _ _).drew)
              have HO := Lib.hid (HO.out.below (Below.refl _ _).drew)
              have sz8 := HBB'.out.size
              go_region_with (go_at_call 53; refine HRR.out.mono ?_; rintro e w3 ⟨v3, rfl, hR3, b3⟩; have HR3 := Lib.hid (Res.base hR3 sz8); have HR4 := Lib.hid (HR.out.below b3); have HO4 := Lib.hid (HO.out.below b3); have HB4 := Lib.hid (chain HBB'.out b3); clear hR3 b3)
              all_goals (go_wp2_with fail; go_meet; exact ⟨HR3, HR4, HO4, HB4⟩)
            case rest =>
            obtain ⟨HR3, HR, HO, HBB⟩ := hcut
            have HADD := Lib.hid (HAD.out wc k (J k) _ _ HR.out.sl HR3.out.sl)
            have sz8 := HBB.out.size
            clear p0 e1 e2 HBB' HP D1 D2 D3
            go_wp2_with (first
              | (go_at_call 54; refine HADD.out.mono ?_; rintro e w4 ⟨v4, rfl, hR4, b4⟩; rcases hR4 with ⟨h0, _⟩ | ⟨g4, c4, rfl, r1, r2, r3, r4, r5⟩; (exact absurd h0 (by decide)); have HG4 : Hid (wr.heap.size ≤ blk (.slice (some ⟨g4, 0, none⟩) 64 c4)) := Lib.hid (Nat.le_trans HO.out.le r1); have HV : Hid (Res .u8 W8.heap.size w4 (.slice (some ⟨g4, 0, none⟩) 64 c4) 64 (SS k)) := Lib.hid (by rw [HSM.out]; exact .inr ⟨g4, c4, rfl, by omega, r2, r3, r4, r5⟩); have HO := Lib.hid (HO.out.below b4); have HBB := Lib.hid (chain HBB.out b4); have sz8 := HBB.out.size; clear b4 r1 r2 r3 r4 r5)
              | (at_builtin; refine wpList_append_own _ rfl _ _ 33 rfl W8.heap.size 30 i0 (.slice none 0 0) 1 24 Tryz.underlying33 hi hz0 hz1 hz2 rfl (by decide) _ _ _ rfl (HO.out.own.alloc _) ⟨w4.heap.size, 0, none⟩ 1 1 [.slice (some ⟨g4, 0, none⟩) 64 c4] rfl rfl (cell_one_new _ _ _) (by simp [Value.oneCell']) (by unfold maxLen; omega) (by omega) (by simp; omega) ?_; intro v' w5 hown2 hgr hnil))
            have HB5 : Hid (Below W8.heap.size W8 w5) := Lib.hid ((HBB.out.alloc sz8 _).grown hgr (by simp; omega) (fun q hq => (HO.out.own.lt q hq).1))
            have HO5 := Lib.hid (HO.out.snoc HV.out HG4.out hown2 hgr)
            clear hown2 hgr hnil
            go_roundw
            case rel =>
              refine ⟨k + 1, R', fun i => if i = k then .slice (some ⟨g4, 0, none⟩) 64 c4 else V i, by omega, by simp, Lib.hid ?_, HO5, Lib.hid ?_, HB5⟩
              · have h1 := HRN.out; have h2 := HJS.out; omega
              · have e : ∀ t, t + 1 + J k = t + (J k + 1) := fun t => by omega
                have h1 := D5.out
                simp only [e] at h1
                rw [HJS.out]
                exact h1
            case measure => simp [intOf]; omega
          · have hh' : hasP M.pt ((k : Int) + 1) = false := by simpa using hh
            have HJS := Lib.hid (HJ2.out k hh')
            have HSM := Lib.hid (HSN.out k hh')
            have HH := Lib.hid hh'
            clear hh hh'
            rcases HR.out with ⟨h0, _⟩ | ⟨g4, c4, rfl, r1, r2, r3, r4, r5⟩
            · exact absurd h0 (by decide)
            have HG4 : Hid (wr.heap.size ≤ blk (.slice (some ⟨g4, 0, none⟩) 64 c4)) := Lib.hid r1
            clear r1 r2 r3 r4 r5
            go_wp2_with (first
              | (go_at_call 52; refine (Has_any _ _ _).mono ?_; rintro e w2 ⟨rfl, b1⟩; rw [HH.out]; have HR := Lib.hid (HR.out.below b1); have HO := Lib.hid (HO.out.below b1); have HBB := Lib.hid (chain HBB.out b1); have sz8 := HBB.out.size; clear b1)
              | (at_builtin; refine wpList_append_own _ rfl _ _ 33 rfl W8.heap.size 30 i0 (.slice none 0 0) 1 24 Tryz.underlying33 hi hz0 hz1 hz2 rfl (by decide) _ _ _ rfl (HO.out.own.alloc _) ⟨w2.heap.size, 0, none⟩ 1 1 [.slice (some ⟨g4, 0, none⟩) 64 c4] rfl rfl (cell_one_new _ _ _) (by simp [Value.oneCell']) (by unfold maxLen; omega) (by omega) (by simp; omega) ?_; intro v' w5 hown2 hgr hnil))
            have HB5 : Hid (Below W8.heap.size W8 w5) := Lib.hid ((HBB.out.alloc sz8 _).grown hgr (by simp; omega) (fun q hq => (HO.out.own.lt q hq).1))
            have HO5 := Lib.hid (HO.out.snoc (by rw [HSM.out]; exact Res.base HR.out szr) HG4.out hown2 hgr)
            clear hown2 hgr hnil
            go_roundw
            case rel =>
              refine ⟨k + 1, R, fun i => if i = k then .slice (some ⟨g4, 0, none⟩) 64 c4 else V i, by omega, by simp, Lib.hid ?_, HO5, Lib.hid ?_, HB5⟩
              · rw [HJS.out]; exact HRN.out
              · rw [HJS.out]
                exact HBs.out
            case measure => simp [intOf]; omega
        · have hk7 : k = 6 := by omega
          have kb : ¬ (k : Int) < 6 := by omega
          clear hk hk6
          go_wp2_with fail
          go_ret2
          subst hk7
          exact ⟨_, rfl, HO.out.six HB8.out.size, chain HB8.out HBB.out⟩
    | false =>
      have HCH := Lib.hid (fun k hk V hS (hA : At V p15 #[.func (.func 47) #[] #[.pointer (some ⟨w.heap.size, 0, none⟩), .pointer (some ⟨w.heap.size + 1, 0, none⟩), .pointer (some ⟨w.heap.size + 1 + 1, 0, none⟩)]] 51) => (HCH0.out k hk V p15 _ _ _ (.slice vq N0 vc) hS (hA.cell 0 _ rfl)).2.2 rfl rfl)
      go_upto_region 27 with fail
      obtain ⟨i0, hi, hz0, hz1, hz2⟩ := info_parts info_bytes
      go_wp2_with fail
      go_loopw [101, 19, 20] (fun x o b wr => ∃ (k R : Nat) (V : Nat → Value), k ≤ 6 ∧ x = .int .i64 k ∧ Hid (R = M.m - J k) ∧ Hid (Out wr.heap.size W8.heap.size wr o k V SS) ∧ Hid (Bsl W8 b R (fun t => M.dc (t + J k)) (fun t => M.q (t + J k)) (fun t => M.nn (t + J k)) (fun t => M.cc (t + J k)) (fun t => M.r (t + J k)) (fun t => M.l (t + J k))) ∧ Hid (Below W8.heap.size W8 wr)) (fun x _ _ _ => 6 - (intOf x).toNat)
      case atStart => exact ⟨0, M.m, fun _ => undef, by omega, rfl, Lib.hid (by rw [J0.out]; rfl), Lib.hid ⟨World.ownsRow_nil _ _ _ _, fun i hi => by omega, fun _ => rfl, Nat.le_refl _, fun i hi => by omega, fun i hi => by omega⟩, Lib.hid (by rw [J0.out]; exact HBl.out), Lib.hid (Below.refl _ _)⟩
      case round =>
        obtain ⟨k, R, V, hk, rfl, HRN, HO, HBs, HBB⟩ := hrel
        by_cases hk6 : k < 6
        · have kb : (k : Int) < 6 := by omega
          have ek : IntKind.i64.wrap ((k : Int) + 1) = (k : Int) + 1 := IntWalk.i64_in _ (by omega)
          have HSe := Lib.hid (SEE.out.below HBB.out)
          have HP := Lib.hid (P12.out.below HBB.out)
          have HCl := Lib.hid (P15.out.below HBB.out)
          have CALL := Lib.hid (HCH.out k hk6 wr HSe.out HCl.out)
          have sz8 := HBB.out.size
          have szr := sz8
          go_upto_region 31 with (go_at_call 47; refine CALL.out.mono ?_; rintro e w1 ⟨v1, rfl, hR, b1⟩; have HR := Lib.hid hR; have HO := Lib.hid (HO.out.below b1); have HBB := Lib.hid (chain HBB.out b1); clear hR b1)
          clear HSe HP HCl CALL sz8
          have HSe := Lib.hid (SEE.out.below HBB.out)
          have m5 := HSe.out.m.cell 5 _ rfl
          by_cases hh : hasP M.pt ((k : Int) + 1) = true
          · have hlt := HJL.out k hk6 hh
            have HJS := Lib.hid (HJ1.out k hh)
            have HSM := Lib.hid (HSY.out k hh)
            have HH := Lib.hid hh
            obtain ⟨R', hR'⟩ : ∃ R', R = R' + 1 := ⟨R - 1, by have := HRN.out; omega⟩
            subst hR'
            obtain ⟨bb, bo, bc, rfl, n1, n2, d1, d2, d3, d4, d5⟩ := Bsl.head HBs.out
            simp only [Nat.zero_add] at d1 d2 d3 d4
            have D5 := Lib.hid (d5 _ rfl)
            have NXT := fun w' => slice_one bb bo R' bc w'
            obtain ⟨nxt, hnx⟩ : ∃ x, x = sliced (some ⟨bb, bo, none⟩) 1 (R' + 1) bc 2 := ⟨_, rfl⟩
            rw [← hnx] at NXT D5
            have D3 := Lib.hid d3
            have hlb := World.block_lt_of_cell? _ _ d1
            have D1 := Lib.hid d1
            have D2 := Lib.hid d2
            clear d1 d2 d3 d5 hnx hh HBs
            have nb : (0 : Int) < ((R' : Int) + 1) := by omega
            have nb2 : (1 : Int) ≤ ((R' : Int) + 1) := by omega
            go_upto_region 32 with (go_at_call 52; refine (Has_any _ _ _).mono ?_; rintro e w2 ⟨rfl, b1⟩; rw [HH.out]; have HR := Lib.hid (HR.out.below b1); have HO := Lib.hid (HO.out.below b1); have HBB := Lib.hid (chain HBB.out b1); clear b1)
            clear HSe m5
            have HBB' := Lib.hid (HBB.out.drew)
            have HP := Lib.hid (P12.out.below HBB'.out)
            have p0 := HP.out.cell 0 _ rfl
            have e1 := (HBB'.out.cell (p := ⟨bb, bo, none⟩) hlb).trans D1.out
            have e2 := (HBB'.out.cell (p := ⟨bb, bo + 1, none⟩) hlb).trans D2.out
            go_cut [23] (fun u wx => Hid (Res .i64 W8.heap.size wx u 64 (RJ (J k))) ∧ Hid (Res .u8 wr.heap.size wx v1 64 (PP k)) ∧ Hid (Out wr.heap.size W8.heap.size wx u19 k V SS) ∧ Hid (Below W8.heap.size W8 wx))
            case first =>
              have HD3 := Lib.hid (D3.out.below HBB'.out)
              have HRR := Lib.hid (HRS.out _ (J k) hlt HD3.out d4)
              have HR := Lib.hid (HR.out.below (Below.refl _ _).drew)
              have HO := Lib.hid (HO.out.below (Below.refl _ _).drew)
              have sz8 := HBB'.out.size
              go_region_with (go_at_call 53; refine HRR.out.mono ?_; rintro e w3 ⟨v3, rfl, hR3, b3⟩; have HR3 := Lib.hid (Res.base hR3 sz8); have HR4 := Lib.hid (HR.out.below b3); have HO4 := Lib.hid (HO.out.below b3); have HB4 := Lib.hid (chain HBB'.out b3); clear hR3 b3)
              all_goals (go_wp2_with fail; go_meet; exact ⟨HR3, HR4, HO4, HB4⟩)
            case rest =>
            obtain ⟨HR3, HR, HO, HBB⟩ := hcut
            have HADD := Lib.hid (HAD.out wc k (J k) _ _ HR.out.sl HR3.out.sl)
            have sz8 := HBB.out.size
            clear p0 e1 e2 HBB' HP D1 D2 D3
            go_wp2_with (first
              | (go_at_call 54; refine HADD.out.mono ?_; rintro e w4 ⟨v4, rfl, hR4, b4⟩; rcases hR4 with ⟨h0, _⟩ | ⟨g4, c4, rfl, r1, r2, r3, r4, r5⟩; (exact absurd h0 (by decide)); have HG4 : Hid (wr.heap.size ≤ blk (.slice (some ⟨g4, 0, none⟩) 64 c4)) := Lib.hid (Nat.le_trans HO.out.le r1); have HV : Hid (Res .u8 W8.heap.size w4 (.slice (some ⟨g4, 0, none⟩) 64 c4) 64 (SS k)) := Lib.hid (by rw [HSM.out]; exact .inr ⟨g4, c4, rfl, by omega, r2, r3, r4, r5⟩); have HO := Lib.hid (HO.out.below b4); have HBB := Lib.hid (chain HBB.out b4); have sz8 := HBB.out.size; clear b4 r1 r2 r3 r4 r5)
              | (at_builtin; refine wpList_append_own _ rfl _ _ 33 rfl W8.heap.size 30 i0 (.slice none 0 0) 1 24 Tryz.underlying33 hi hz0 hz1 hz2 rfl (by decide) _ _ _ rfl (HO.out.own.alloc _) ⟨w4.heap.size, 0, none⟩ 1 1 [.slice (some ⟨g4, 0, none⟩) 64 c4] rfl rfl (cell_one_new _ _ _) (by simp [Value.oneCell']) (by unfold maxLen; omega) (by omega) (by simp; omega) ?_; intro v' w5 hown2 hgr hnil))
            have HB5 : Hid (Below W8.heap.size W8 w5) := Lib.hid ((HBB.out.alloc sz8 _).grown hgr (by simp; omega) (fun q hq => (HO.out.own.lt q hq).1))
            have HO5 := Lib.hid (HO.out.snoc HV.out HG4.out hown2 hgr)
            clear hown2 hgr hnil
            go_roundw
            case rel =>
              refine ⟨k + 1, R', fun i => if i = k then .slice (some ⟨g4, 0, none⟩) 64 c4 else V i, by omega, by simp, Lib.hid ?_, HO5, Lib.hid ?_, HB5⟩
              · have h1 := HRN.out; have h2 := HJS.out; omega
              · have e : ∀ t, t + 1 + J k = t + (J k + 1) := fun t => by omega
                have h1 := D5.out
                simp only [e] at h1
                rw [HJS.out]
                exact h1
            case measure => simp [intOf]; omega
          · have hh' : hasP M.pt ((k : Int) + 1) = false := by simpa using hh
            have HJS := Lib.hid (HJ2.out k hh')
            have HSM := Lib.hid (HSN.out k hh')
            have HH := Lib.hid hh'
            clear hh hh'
            rcases HR.out with ⟨h0, _⟩ | ⟨g4, c4, rfl, r1, r2, r3, r4, r5⟩
            · exact absurd h0 (by decide)
            have HG4 : Hid (wr.heap.size ≤ blk (.slice (some ⟨g4, 0, none⟩) 64 c4)) := Lib.hid r1
            clear r1 r2 r3 r4 r5
            go_wp2_with (first
              | (go_at_call 52; refine (Has_any _ _ _).mono ?_; rintro e w2 ⟨rfl, b1⟩; rw [HH.out]; have HR := Lib.hid (HR.out.below b1); have HO := Lib.hid (HO.out.below b1); have HBB := Lib.hid (chain HBB.out b1); have sz8 := HBB.out.size; clear b1)
              | (at_builtin; refine wpList_append_own _ rfl _ _ 33 rfl W8.heap.size 30 i0 (.slice none 0 0) 1 24 Tryz.underlying33 hi hz0 hz1 hz2 rfl (by decide) _ _ _ rfl (HO.out.own.alloc _) ⟨w2.heap.size, 0, none⟩ 1 1 [.slice (some ⟨g4, 0, none⟩) 64 c4] rfl rfl (cell_one_new _ _ _) (by simp [Value.oneCell']) (by unfold maxLen; omega) (by omega) (by simp; omega) ?_; intro v' w5 hown2 hgr hnil))
            have HB5 : Hid (Below W8.heap.size W8 w5) := Lib.hid ((HBB.out.alloc sz8 _).grown hgr (by simp; omega) (fun q hq => (HO.out.own.lt q hq).1))
            have HO5 := Lib.hid (HO.out.snoc (by rw [HSM.out]; exact Res.base HR.out szr) HG4.out hown2 hgr)
            clear hown2 hgr hnil
            go_roundw
            case rel =>
              refine ⟨k + 1, R, fun i => if i = k then .slice (some ⟨g4, 0, none⟩) 64 c4 else V i, by omega, by simp, Lib.hid ?_, HO5, Lib.hid ?_, HB5⟩
              · rw [HJS.out]; exact HRN.out
              · rw [HJS.out]
                exact HBs.out
            case measure => simp [intOf]; omega
        · have hk7 : k = 6 := by omega
          have kb : ¬ (k : Int) < 6 := by omega
          clear hk hk6
          go_wp2_with fail
          go_ret2
          subst hk7
          exact ⟨_, rfl, HO.out.six HB8.out.size, chain HB8.out HBB.out⟩
end
end Bu
end Go.Proofs.YtbmglemjfodfhaaGreat
