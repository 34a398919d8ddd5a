/-
  PatternSwaps walked.
-/
import Derived.Test.YtbmcfodhjibooaaDoorPsB
import Derived.Test.YtbmcfodhjibooaaDoorPqA
import Derived.Lib.QuietBelow
import Derived.BigQuiet
namespace Go.Proofs.YtbmcfodhjibooaaDoor
open Go.RowKit Saw Go.Sort
theorem nd_memV (l : List Value) (h : ∃ k, l = ndCells k) : ∀ u ∈ l, u.oneCell' = true := by
  obtain ⟨k, rfl⟩ := h
  exact nd_mem k
/-- The two patterns' memory while the second one's nodes are put together. -/
structure SwSt (w W : World) (N K : Nat) (r q : Rc) (nv v : Value) (acc : List Nd) : Prop where
  p : PatAt W N r nv
  q : PatAt W K q v
  own : W.ownsRow (K + 1) 64 2 v acc.length (ndCells acc)
  bel : Below w.heap.size w W
  wN : w.heap.size = N
  NK : N < K
section
variable {w W : World} {N K : Nat} {r q : Rc} {nv v : Value} {acc : List Nd}
theorem SwSt.kK (h : SwSt w W N K r q nv v acc) : K < W.heap.size := (Array.getElem?_eq_some_iff.1 h.q).1
theorem SwSt.kN (h : SwSt w W N K r q nv v acc) : N < W.heap.size := (Array.getElem?_eq_some_iff.1 h.p).1
theorem SwSt.next {W' : World} (h : SwSt w W N K r q nv v acc) (hb : Below W.heap.size W W') : SwSt w W' N K r q nv v acc := by
  refine ⟨(hb.block N h.kN).trans h.p, (hb.block K h.kK).trans h.q, h.own.kept (row := none) ⟨hb.os, hb.tape, hb.output, hb.size, fun k hk _ => hb.block k hk⟩ ?_, bel_call h.bel hb, h.wN, h.NK⟩
  cases v.ownBlock <;> simp
theorem SwSt.step {W3 W8 : World} {o : Obj} {A : Option Addr} {m c : Nat} {k p : Int} (h : SwSt w W N K r q nv v acc) (hb : Below W.heap.size W W3) (hg : (W3.alloc o).grownBy W8 v.ownBlock) (hown : W8.ownsRow (K + 1) 64 2 (.slice A m c) (acc.length + 1) (ndCells acc ++ [.int .i64 k, .int .i64 p])) :
    SwSt w (W8.setCell ⟨K, 4, none⟩ (.slice A m c)) N K r q nv (.slice A m c) (acc ++ [⟨k, p⟩]) := by
  have h3 := (h.next hb).next (bel_alloc (ob := o) (Below.refl W3.heap.size W3))
  have k1 := h3.kK
  have k2 := h3.kN
  have k3 := h3.NK
  have k4 := h3.wN
  have hne : ∀ g, g ≤ K → v.ownBlock ≠ some g := fun g hgk e => by have := (own_at h3.own e).1; omega
  have hq8 : W8.heap[K]? = some (.cells #[.int .i64 q.xa, .int .i64 q.xb, .int .i64 q.ya, .int .i64 q.yb, v] 28 (0, 0)) := (hg.block K k1 (fun e => hne K (Nat.le_refl _) e.symm)).trans h3.q
  have hp8 : PatAt W8 N r nv := (hg.block N k2 (fun e => hne N (Nat.le_of_lt k3) e.symm)).trans h3.p
  have hgs : W8.grownBy (W8.setCell ⟨K, 4, none⟩ (.slice A m c)) (some K) := ⟨rfl, rfl, rfl, by simp [World.setCell], fun j _ hne => Below.heap_setCell _ _ _ _ (fun e => hne (by rw [e]))⟩
  have hK8 := (Array.getElem?_eq_some_iff.1 hq8).1
  have hN8 := (Array.getElem?_eq_some_iff.1 hp8).1
  refine ⟨(hgs.block N hN8 (fun e => by injection e; omega)).trans hp8, ?_, ?_, ?_, k4, k3⟩
  · unfold PatAt
    rw [setCell_eq_setRow W8 K 4 _ _ _ _ hq8, setRow_heap _ _ _ _ _ _ hq8]
    rfl
  · rw [List.length_append, ndCells_app]
    exact hown.kept hgs (.inr (fun e => by have := (own_at hown e).1; omega))
  · exact (h3.bel.grown hg (by omega) (fun k e => by have := (own_at h3.own e).1; omega)).grown hgs (by omega) (fun k e => by injection e; omega)
end
/-- The two patterns' memory, and their leaves and cuts. -/
structure SwQ (w W : World) (N K : Nat) (r q : Rc) (nv v : Value) (ns ms : List Nd) : Prop where
  p : PatAt W N r nv
  q : PatAt W K q v
  n : RdNd W W.heap.size nv ns
  m : RdNd W W.heap.size v ms
  bel : Below w.heap.size w W
theorem SwQ.next {w W W' : World} {N K : Nat} {r q : Rc} {nv v : Value} {ns ms : List Nd} (h : SwQ w W N K r q nv v ns ms) (hb : Below W.heap.size W W') : SwQ w W' N K r q nv v ns ms :=
  ⟨(hb.block N (Array.getElem?_eq_some_iff.1 h.p).1).trans h.p, (hb.block K (Array.getElem?_eq_some_iff.1 h.q).1).trans h.q, h.n.next hb, h.m.next hb, bel_call h.bel hb⟩

set_option maxRecDepth 100000 in
set_option maxHeartbeats 8000000 in
theorem patternSwaps_walk (r : Rc) (ns : List Nd) (A : Option Addr) (c : Nat) (kerf : Int) (w : World) (hns : RdNd w w.heap.size (.slice A ns.length c) ns) (_hk : I64 kerf) (hv : VarsX w) :
    Calls Tryd.prog 9 #[.agg #[.int .i64 r.xa, .int .i64 r.xb, .int .i64 r.ya, .int .i64 r.yb, .slice A ns.length c], .int .i64 kerf] w (LawX w) := by
  obtain ⟨_, _, _, _, hml⟩ := hns.form
  unfold maxLen at hml
  have HV := Lib.hid hv
  have HNS := Lib.hid hns
  obtain ⟨W0, hW0⟩ : ∃ W0, w.alloc (.cells #[.int .i64 r.xa, .int .i64 r.xb, .int .i64 r.ya, .int .i64 r.yb, .slice A ns.length c] 28) = W0 := ⟨_, rfl⟩
  have hb0 : Below w.heap.size w W0 := by rw [← hW0]; exact bel_alloc (Below.refl _ _)
  have hp0 : PatAt W0 w.heap.size r (.slice A ns.length c) := by rw [← hW0]; exact heap_alloc_last w _
  have HB0 := Lib.hid hb0
  have HP0 := Lib.hid hp0
  obtain ⟨p0, p1, p2, p3, p4⟩ := cells5 hp0
  clear hb0 hp0 hns hv
  by_cases h127 : 127 < (ns.length : Int)
  · go_enter Tryd.func9, Tryd.ntmps9
    go_wp2_with fail
    refine (awake_any W0 (HV.out.next HB0.out)).mono ?_
    rintro e w1 ⟨he, hb1⟩
    subst he
    have HB1 := Lib.hid (bel_call HB0.out hb1)
    clear hb1
    go_wp2_with fail
    go_ret
    exact ⟨rfl, HB1.out⟩
  go_enter Tryd.func9, Tryd.ntmps9
  go_wp2_with fail
  refine (swap_any r W0).mono ?_
  rintro e w1 ⟨he, hb1⟩
  subst he
  have HB1 := Lib.hid (bel_call HB0.out hb1)
  have HP1 := Lib.hid (show PatAt w1 w.heap.size r (.slice A ns.length c) from (hb1.block w.heap.size (Array.getElem?_eq_some_iff.1 HP0.out).1).trans HP0.out)
  clear hb1 p0 p1 p2 p3 p4
  go_upto_region 4 with fail
  obtain ⟨W1, hW1⟩ : ∃ W, w1.alloc (.cells #[.int .i64 r.ya, .int .i64 r.yb, .int .i64 r.xa, .int .i64 r.xb, .slice none 0 0] 28) = W := ⟨_, rfl⟩
  have hx := bel_alloc (ob := .cells #[.int .i64 r.ya, .int .i64 r.yb, .int .i64 r.xa, .int .i64 r.xb, .slice none 0 0] 28) (Below.refl w1.heap.size w1)
  have hy := heap_alloc_last w1 (.cells #[.int .i64 r.ya, .int .i64 r.yb, .int .i64 r.xa, .int .i64 r.xb, .slice none 0 0] 28)
  rw [hW1] at hx hy ⊢
  have hNK : w.heap.size < w1.heap.size := (Array.getElem?_eq_some_iff.1 HP1.out).1
  obtain ⟨K, hK⟩ : ∃ K, w1.heap.size = K := ⟨_, rfl⟩
  rw [hK] at hy hNK ⊢
  have hs1 : SwSt w W1 w.heap.size K r (swapR r) (.slice A ns.length c) (.slice none 0 0) [] := ⟨(hx.block w.heap.size (Array.getElem?_eq_some_iff.1 HP1.out).1).trans HP1.out, hy, ⟨rfl, .inl ⟨rfl, rfl⟩⟩, bel_call HB1.out hx, rfl, hNK⟩
  have HS1 := Lib.hid hs1
  obtain ⟨i0, hi0, hz0, hz1, hz2⟩ := info_parts nd_infoE
  clear hs1 hx hy hNK hK hW1 HP1 HB1
  go_wp2_with fail
  go_loopw [6] (fun iv wr => ∃ (k : Nat) (v : Value), iv = .int .i64 k ∧ k ≤ ns.length ∧ SwSt w wr w.heap.size K r (swapR r) (.slice A ns.length c) v ((ns.take k).map swapN)) (fun i _ => ns.length - (intOf i).toNat)
  case atStart => exact ⟨0, _, rfl, by omega, HS1.out⟩
  case round =>
    obtain ⟨k, v, rfl, hkl, hst⟩ := hrel
    obtain ⟨acc, hacc⟩ : ∃ acc, (ns.take k).map swapN = acc := ⟨_, rfl⟩
    rw [hacc] at hst
    have hlm : acc.length = k := by rw [← hacc, List.length_map, List.length_take]; omega
    have HACC := Lib.hid hacc
    have HLM := Lib.hid hlm
    have hla : acc.length ≤ 127 := by omega
    obtain ⟨A2, c2, rfl, _, _⟩ := Rd.form_ (Rd.of_own hst.own)
    have HST := Lib.hid hst
    obtain ⟨p0, p1, p2, p3, p4⟩ := cells5 hst.p
    have hNr := hst.kN
    have hKr := hst.kK
    have hNK := hst.NK
    clear hst HS1 hacc hlm
    by_cases hlt : k < ns.length
    · obtain ⟨⟨nk, np⟩, hn⟩ : ∃ n, ns[k]? = some n := ⟨_, List.getElem?_eq_getElem hlt⟩
      obtain ⟨b, off, rfl, hb, d0, d1⟩ := (HNS.out.below HST.out.bel).at_ hn
      simp only at d0 d1
      have hbr : b < wr.heap.size := Nat.lt_of_lt_of_le hb HST.out.bel.size
      have f1 : (0 : Int) ≤ (k : Int) := by omega
      have f2 : (k : Int) < (ns.length : Int) := by omega
      have HT := Lib.hid (show (ns.take (k + 1)).map swapN = acc ++ [swapN ⟨nk, np⟩] by rw [List.take_add_one, hn, List.map_append, HACC.out]; rfl)
      clear hn hb
      have hkc : ((nk == 2) = true ∧ nk = 2) ∨ ((nk == 2) = false ∧ (nk == 3) = true ∧ nk = 3) ∨ ((nk == 2) = false ∧ (nk == 3) = false ∧ nk ≠ 2 ∧ nk ≠ 3) := by
        by_cases h2 : nk = 2
        · exact .inl ⟨by rw [beq_iff_eq]; exact h2, h2⟩
        · by_cases h3 : nk = 3
          · exact .inr (.inl ⟨by rw [beq_eq_false_iff_ne]; exact h2, by rw [beq_iff_eq]; exact h3, h3⟩)
          · exact .inr (.inr ⟨by rw [beq_eq_false_iff_ne]; exact h2, by rw [beq_eq_false_iff_ne]; exact h3, h2, h3⟩)
      rcases hkc with ⟨kb2, hk⟩ | ⟨kb2, kb3, hk⟩ | ⟨kb2, kb3, hk2, hk3⟩
      · have HK := Lib.hid hk
        clear hk
        go_upto_region 13 with fail
        obtain ⟨W3, hW3⟩ : ∃ W, wr.alloc (.cells #[.int .i64 3, .int .i64 np] 64) = W := ⟨_, rfl⟩
        have hb3 := bel_alloc (ob := .cells #[.int .i64 3, .int .i64 np] 64) (Below.refl wr.heap.size wr)
        have hx3 := heap_alloc_last wr (.cells #[.int .i64 3, .int .i64 np] 64)
        rw [hW3] at hb3 hx3 ⊢
        have HB3 := Lib.hid hb3
        have HS3 := Lib.hid (HST.out.next hb3)
        have HQ3 := Lib.hid (hpA HS3.out.q (.cells #[.int .i64 3, .int .i64 np] 64))
        have hK3 := HS3.out.kK
        have hx3s := (Array.getElem?_eq_some_iff.1 hx3).1
        obtain ⟨u0, u1⟩ := cells2 hx3
        clear p0 p1 p2 p3 p4 d0 d1 hb3 hx3 hW3
        obtain ⟨z0, z1, z2, z3, z4⟩ := cells5 HS3.out.q
        go_wp2_with (at_builtin; refine wpList_append_lies _ (by rfl) (.tmp 48) (.tmp 50) 26 (by rfl) (K + 1) 64 i0 _ 2 16 Tryd.underlying26 hi0 hz0 hz1 hz2 rfl (by omega) (.slice A2 acc.length c2) acc.length (ndCells acc) (by rfl) (World.ownsRow.alloc HS3.out.own _) ⟨W3.heap.size, 0, none⟩ 1 1 [.int .i64 3, .int .i64 np] (by rfl) (by rfl) (World.news_of_block (cs := #[.int .i64 3, .int .i64 np]) (t := 64) (fr := (0, 0)) (heap_alloc_last W3 _)) (nd_memV _ ⟨[⟨3, np⟩], rfl⟩) (by omega) (by simp only [maxLen]; omega) (by omega) (by rw [World.size_alloc]; omega) _ rfl ?_; intro g7 cap7 w8 hown7 hgrow hat hlt7; have HO7 := Lib.hid hown7; have HG7 := Lib.hid hgrow; (have hq8 := (hgrow.block K (Array.getElem?_eq_some_iff.1 HQ3.out).1 (fun e => by have := (own_at HS3.out.own e.symm).1; omega)).trans HQ3.out); (have d7 := cell_of_box hq8 (j := 4) rfl); (have d8 := frz hq8 4); clear hown7 hgrow hat hlt7 hq8)
        have HF := Lib.hid (show SwSt w (w8.setCell ⟨K, 4, none⟩ (.slice (some ⟨g7, 0, none⟩) (acc.length + 1) cap7)) w.heap.size K r (swapR r) (.slice (some ⟨b, off, none⟩) ns.length c) (.slice (some ⟨g7, 0, none⟩) (acc.length + 1) cap7) ((ns.take (k + 1)).map swapN) by
          rw [HT.out, show swapN ⟨nk, np⟩ = ⟨3, np⟩ by rw [HK.out]; rfl]
          exact HST.out.step HB3.out HG7.out HO7.out)
        exact ⟨⟨k + 1, _, by go_num, by omega, HF.out⟩, by simp [intOf]; omega⟩
      · have HK := Lib.hid hk
        clear hk
        go_upto_region 13 with fail
        obtain ⟨W3, hW3⟩ : ∃ W, wr.alloc (.cells #[.int .i64 2, .int .i64 np] 64) = W := ⟨_, rfl⟩
        have hb3 := bel_alloc (ob := .cells #[.int .i64 2, .int .i64 np] 64) (Below.refl wr.heap.size wr)
        have hx3 := heap_alloc_last wr (.cells #[.int .i64 2, .int .i64 np] 64)
        rw [hW3] at hb3 hx3 ⊢
        have HB3 := Lib.hid hb3
        have HS3 := Lib.hid (HST.out.next hb3)
        have HQ3 := Lib.hid (hpA HS3.out.q (.cells #[.int .i64 2, .int .i64 np] 64))
        have hK3 := HS3.out.kK
        have hx3s := (Array.getElem?_eq_some_iff.1 hx3).1
        obtain ⟨u0, u1⟩ := cells2 hx3
        clear p0 p1 p2 p3 p4 d0 d1 hb3 hx3 hW3
        obtain ⟨z0, z1, z2, z3, z4⟩ := cells5 HS3.out.q
        go_wp2_with (at_builtin; refine wpList_append_lies _ (by rfl) (.tmp 48) (.tmp 50) 26 (by rfl) (K + 1) 64 i0 _ 2 16 Tryd.underlying26 hi0 hz0 hz1 hz2 rfl (by omega) (.slice A2 acc.length c2) acc.length (ndCells acc) (by rfl) (World.ownsRow.alloc HS3.out.own _) ⟨W3.heap.size, 0, none⟩ 1 1 [.int .i64 2, .int .i64 np] (by rfl) (by rfl) (World.news_of_block (cs := #[.int .i64 2, .int .i64 np]) (t := 64) (fr := (0, 0)) (heap_alloc_last W3 _)) (nd_memV _ ⟨[⟨2, np⟩], rfl⟩) (by omega) (by simp only [maxLen]; omega) (by omega) (by rw [World.size_alloc]; omega) _ rfl ?_; intro g7 cap7 w8 hown7 hgrow hat hlt7; have HO7 := Lib.hid hown7; have HG7 := Lib.hid hgrow; (have hq8 := (hgrow.block K (Array.getElem?_eq_some_iff.1 HQ3.out).1 (fun e => by have := (own_at HS3.out.own e.symm).1; omega)).trans HQ3.out); (have d7 := cell_of_box hq8 (j := 4) rfl); (have d8 := frz hq8 4); clear hown7 hgrow hat hlt7 hq8)
        have HF := Lib.hid (show SwSt w (w8.setCell ⟨K, 4, none⟩ (.slice (some ⟨g7, 0, none⟩) (acc.length + 1) cap7)) w.heap.size K r (swapR r) (.slice (some ⟨b, off, none⟩) ns.length c) (.slice (some ⟨g7, 0, none⟩) (acc.length + 1) cap7) ((ns.take (k + 1)).map swapN) by
          rw [HT.out, show swapN ⟨nk, np⟩ = ⟨2, np⟩ by rw [HK.out]; rfl]
          exact HST.out.step HB3.out HG7.out HO7.out)
        exact ⟨⟨k + 1, _, by go_num, by omega, HF.out⟩, by simp [intOf]; omega⟩
      · have HK := Lib.hid (And.intro hk2 hk3)
        clear hk2 hk3
        go_upto_region 13 with fail
        obtain ⟨W3, hW3⟩ : ∃ W, wr.alloc (.cells #[.int .i64 nk, .int .i64 np] 64) = W := ⟨_, rfl⟩
        have hb3 := bel_alloc (ob := .cells #[.int .i64 nk, .int .i64 np] 64) (Below.refl wr.heap.size wr)
        have hx3 := heap_alloc_last wr (.cells #[.int .i64 nk, .int .i64 np] 64)
        rw [hW3] at hb3 hx3 ⊢
        have HB3 := Lib.hid hb3
        have HS3 := Lib.hid (HST.out.next hb3)
        have HQ3 := Lib.hid (hpA HS3.out.q (.cells #[.int .i64 nk, .int .i64 np] 64))
        have hK3 := HS3.out.kK
        have hx3s := (Array.getElem?_eq_some_iff.1 hx3).1
        obtain ⟨u0, u1⟩ := cells2 hx3
        clear p0 p1 p2 p3 p4 d0 d1 hb3 hx3 hW3
        obtain ⟨z0, z1, z2, z3, z4⟩ := cells5 HS3.out.q
        go_wp2_with (at_builtin; refine wpList_append_lies _ (by rfl) (.tmp 48) (.tmp 50) 26 (by rfl) (K + 1) 64 i0 _ 2 16 Tryd.underlying26 hi0 hz0 hz1 hz2 rfl (by omega) (.slice A2 acc.length c2) acc.length (ndCells acc) (by rfl) (World.ownsRow.alloc HS3.out.own _) ⟨W3.heap.size, 0, none⟩ 1 1 [.int .i64 nk, .int .i64 np] (by rfl) (by rfl) (World.news_of_block (cs := #[.int .i64 nk, .int .i64 np]) (t := 64) (fr := (0, 0)) (heap_alloc_last W3 _)) (nd_memV _ ⟨[⟨nk, np⟩], rfl⟩) (by omega) (by simp only [maxLen]; omega) (by omega) (by rw [World.size_alloc]; omega) _ rfl ?_; intro g7 cap7 w8 hown7 hgrow hat hlt7; have HO7 := Lib.hid hown7; have HG7 := Lib.hid hgrow; (have hq8 := (hgrow.block K (Array.getElem?_eq_some_iff.1 HQ3.out).1 (fun e => by have := (own_at HS3.out.own e.symm).1; omega)).trans HQ3.out); (have d7 := cell_of_box hq8 (j := 4) rfl); (have d8 := frz hq8 4); clear hown7 hgrow hat hlt7 hq8)
        have HF := Lib.hid (show SwSt w (w8.setCell ⟨K, 4, none⟩ (.slice (some ⟨g7, 0, none⟩) (acc.length + 1) cap7)) w.heap.size K r (swapR r) (.slice (some ⟨b, off, none⟩) ns.length c) (.slice (some ⟨g7, 0, none⟩) (acc.length + 1) cap7) ((ns.take (k + 1)).map swapN) by
          rw [HT.out, show swapN ⟨nk, np⟩ = ⟨nk, np⟩ by rw [swapN, if_neg HK.out.1, if_neg HK.out.2]]
          exact HST.out.step HB3.out HG7.out HO7.out)
        exact ⟨⟨k + 1, _, by go_num, by omega, HF.out⟩, by simp [intOf]; omega⟩
    · have hke : acc = ns.map swapN := by rw [← HACC.out, show k = ns.length by omega, List.take_length]
      have HQ0 := Lib.hid (show SwQ w wr w.heap.size K r (swapR r) (.slice A ns.length c) (.slice A2 acc.length c2) ns acc from ⟨HST.out.p, HST.out.q, HNS.out.next HST.out.bel, Rd.of_own HST.out.own, HST.out.bel⟩)
      obtain ⟨LA, e1, hl1⟩ : ∃ LA e, leavesP r ns kerf = (LA, e) := ⟨_, _, rfl⟩
      obtain ⟨CA, e2, hc1⟩ : ∃ CA e, cutsP r ns kerf = (CA, e) := ⟨_, _, rfl⟩
      have HLE := Lib.hid (show leavesP r ns kerf = (LA, e1) ∧ leavesP (swapR r) acc kerf = (LA.map swapL, e1) ∧ cutsP r ns kerf = (CA, e2) ∧ cutsP (swapR r) acc kerf = (CA.map swapR, e2) from
        ⟨hl1, by rw [hke, swap_leaves, hl1], hc1, by rw [hke, swap_cuts, hc1]⟩)
      have HDE := Lib.hid (show depthP acc = depthP ns by rw [hke, swap_depth])
      clear hl1 hc1 hke p0 p1 p2 p3 p4 hNr hKr
      obtain ⟨p0, p1, p2, p3, p4⟩ := cells5 HQ0.out.p
      obtain ⟨z0, z1, z2, z3, z4⟩ := cells5 HQ0.out.q
      go_wp2_with fail
      refine (leaves_any r ns (.slice A ns.length c) kerf wr HQ0.out.n).mono ?_
      rintro e v0w ⟨vv, he, hl, hb⟩
      rw [HLE.out.1] at he hl
      simp only [List.length_map] at hl
      subst he
      obtain ⟨AL1, cL1, rfl, _, mlL1⟩ := Rd.form_ hl
      have HL1 := Lib.hid (show Rd v0w v0w.heap.size 5 (.slice AL1 LA.length cL1) LA.length (lfsCells LA) from hl)
      have HQ1 := Lib.hid (HQ0.out.next hb)
      clear hb hl p0 p1 p2 p3 p4 z0 z1 z2 z3 z4 HQ0
      obtain ⟨p0, p1, p2, p3, p4⟩ := cells5 HQ1.out.p
      obtain ⟨z0, z1, z2, z3, z4⟩ := cells5 HQ1.out.q
      go_wp2_with fail
      refine (leaves_any (swapR r) acc (.slice A2 acc.length c2) kerf v0w HQ1.out.m).mono ?_
      rintro e v1w ⟨vv, he, hl, hb⟩
      rw [HLE.out.2.1] at he hl
      simp only [List.length_map] at hl
      subst he
      obtain ⟨AL2, cL2, rfl, _, mlL2⟩ := Rd.form_ hl
      have HL2 := Lib.hid (show Rd v1w v1w.heap.size 5 (.slice AL2 LA.length cL2) LA.length (lfsCells (LA.map swapL)) from hl)
      have HL1' := Lib.hid (show Rd v1w v1w.heap.size 5 (.slice AL1 LA.length cL1) LA.length (lfsCells LA) from Rd.next HL1.out hb)
      clear HL1
      have HL1 := Lib.hid HL1'.out
      clear HL1'
      have HQ2 := Lib.hid (HQ1.out.next hb)
      clear hb hl p0 p1 p2 p3 p4 z0 z1 z2 z3 z4 HQ1
      obtain ⟨p0, p1, p2, p3, p4⟩ := cells5 HQ2.out.p
      obtain ⟨z0, z1, z2, z3, z4⟩ := cells5 HQ2.out.q
      go_wp2_with fail
      refine (cuts_any r ns (.slice A ns.length c) kerf v1w HQ2.out.n).mono ?_
      rintro e v2w ⟨vv, he, hl, hb⟩
      rw [HLE.out.2.2.1] at he hl
      simp only [List.length_map] at hl
      subst he
      obtain ⟨AC1, cC1, rfl, _, mlC1⟩ := Rd.form_ hl
      have HC1 := Lib.hid (show Rd v2w v2w.heap.size 4 (.slice AC1 CA.length cC1) CA.length (rcsCells CA) from hl)
      have HL1' := Lib.hid (show Rd v2w v2w.heap.size 5 (.slice AL1 LA.length cL1) LA.length (lfsCells LA) from Rd.next HL1.out hb)
      clear HL1
      have HL2' := Lib.hid (show Rd v2w v2w.heap.size 5 (.slice AL2 LA.length cL2) LA.length (lfsCells (LA.map swapL)) from Rd.next HL2.out hb)
      clear HL2
      have HL1 := Lib.hid HL1'.out
      clear HL1'
      have HL2 := Lib.hid HL2'.out
      clear HL2'
      have HQ3 := Lib.hid (HQ2.out.next hb)
      clear hb hl p0 p1 p2 p3 p4 z0 z1 z2 z3 z4 HQ2
      obtain ⟨p0, p1, p2, p3, p4⟩ := cells5 HQ3.out.p
      obtain ⟨z0, z1, z2, z3, z4⟩ := cells5 HQ3.out.q
      go_wp2_with fail
      refine (cuts_any (swapR r) acc (.slice A2 acc.length c2) kerf v2w HQ3.out.m).mono ?_
      rintro e v3w ⟨vv, he, hl, hb⟩
      rw [HLE.out.2.2.2] at he hl
      simp only [List.length_map] at hl
      subst he
      obtain ⟨AC2, cC2, rfl, _, mlC2⟩ := Rd.form_ hl
      have HC2 := Lib.hid (show Rd v3w v3w.heap.size 4 (.slice AC2 CA.length cC2) CA.length (rcsCells (CA.map swapR)) from hl)
      have HL1' := Lib.hid (show Rd v3w v3w.heap.size 5 (.slice AL1 LA.length cL1) LA.length (lfsCells LA) from Rd.next HL1.out hb)
      clear HL1
      have HL2' := Lib.hid (show Rd v3w v3w.heap.size 5 (.slice AL2 LA.length cL2) LA.length (lfsCells (LA.map swapL)) from Rd.next HL2.out hb)
      clear HL2
      have HC1' := Lib.hid (show Rd v3w v3w.heap.size 4 (.slice AC1 CA.length cC1) CA.length (rcsCells CA) from Rd.next HC1.out hb)
      clear HC1
      have HL1 := Lib.hid HL1'.out
      clear HL1'
      have HL2 := Lib.hid HL2'.out
      clear HL2'
      have HC1 := Lib.hid HC1'.out
      clear HC1'
      have HQ4 := Lib.hid (HQ3.out.next hb)
      clear hb hl p0 p1 p2 p3 p4 z0 z1 z2 z3 z4 HQ3
      obtain ⟨d0, hd0⟩ : ∃ d, depthP ns = d := ⟨_, rfl⟩
      unfold maxLen at mlL1 mlC1
      have S1 : Hid (∀ d os, Calls Tryd.prog 21 #[.agg #[.int .i64 r.xa, .int .i64 r.xb, .int .i64 r.ya, .int .i64 r.yb, (.slice A ns.length c)]] (grow (redrawn v3w d) os) fun e w' => e = .returned (.int .i64 d0) ∧ Below (grow (redrawn v3w d) os).heap.size (grow (redrawn v3w d) os) w') := fun d os => hd0 ▸ depth_any r ns (.slice A ns.length c) _ (HQ4.out.n.next (below_regrown v3w d os))
      have S2 : Hid (∀ d os, Calls Tryd.prog 21 #[.agg #[.int .i64 (swapR r).xa, .int .i64 (swapR r).xb, .int .i64 (swapR r).ya, .int .i64 (swapR r).yb, (.slice A2 acc.length c2)]] (grow (redrawn v3w d) os) fun e w' => e = .returned (.int .i64 d0) ∧ Below (grow (redrawn v3w d) os).heap.size (grow (redrawn v3w d) os) w') := fun d os => hd0 ▸ HDE.out ▸ depth_any (swapR r) acc (.slice A2 acc.length c2) _ (HQ4.out.m.next (below_regrown v3w d os))
      have hcn : ∀ d os, (grow (redrawn v3w d) os).cell? ⟨w.heap.size, 0, none⟩ = some (.int .i64 r.xa) ∧ (grow (redrawn v3w d) os).cell? ⟨w.heap.size, 1, none⟩ = some (.int .i64 r.xb) ∧ (grow (redrawn v3w d) os).cell? ⟨w.heap.size, 2, none⟩ = some (.int .i64 r.ya) ∧ (grow (redrawn v3w d) os).cell? ⟨w.heap.size, 3, none⟩ = some (.int .i64 r.yb) ∧ (grow (redrawn v3w d) os).cell? ⟨w.heap.size, 4, none⟩ = some (.slice A ns.length c) := fun d os => by
        obtain ⟨p0, p1, p2, p3, p4⟩ := cells5 HQ4.out.p
        exact ⟨cell_regrown p0 d os, cell_regrown p1 d os, cell_regrown p2 d os, cell_regrown p3 d os, cell_regrown p4 d os⟩
      have hcm : ∀ d os, (grow (redrawn v3w d) os).cell? ⟨K, 0, none⟩ = some (.int .i64 (swapR r).xa) ∧ (grow (redrawn v3w d) os).cell? ⟨K, 1, none⟩ = some (.int .i64 (swapR r).xb) ∧ (grow (redrawn v3w d) os).cell? ⟨K, 2, none⟩ = some (.int .i64 (swapR r).ya) ∧ (grow (redrawn v3w d) os).cell? ⟨K, 3, none⟩ = some (.int .i64 (swapR r).yb) ∧ (grow (redrawn v3w d) os).cell? ⟨K, 4, none⟩ = some (.slice A2 acc.length c2) := fun d os => by
        obtain ⟨p0, p1, p2, p3, p4⟩ := cells5 HQ4.out.q
        exact ⟨cell_regrown p0 d os, cell_regrown p1 d os, cell_regrown p2 d os, cell_regrown p3 d os, cell_regrown p4 d os⟩
      clear hd0
      go_wp2_with fail
      refine wp_region_quiet_below (by kernel_rfl) (by kernel_rfl) ?_
      repeat (first
        | (open Go.BigFrame in go_big_quiet_step ((first | (with_reducible exact Calls.regrown_of (S1.out _ _)) | (with_reducible exact Calls.regrown_of (S2.out _ _)))))
        | (quiet_step ((first | (with_reducible exact Calls.regrown_of (S1.out _ _)) | (with_reducible exact Calls.regrown_of (S2.out _ _))))))
      refine wpQuiet_nil ?_
      rintro w6 ⟨z6, hw6⟩
      have hb6 : Below v3w.heap.size v3w w6 := by rw [hw6]; exact below_regrown _ _ _
      have HB6 := Lib.hid (bel_call HQ4.out.bel hb6)
      have HL16 := Lib.hid (show Rd w6 w6.heap.size 5 (.slice AL1 LA.length cL1) LA.length (lfsCells LA) from Rd.next HL1.out hb6)
      clear HL1
      have HL26 := Lib.hid (show Rd w6 w6.heap.size 5 (.slice AL2 LA.length cL2) LA.length (lfsCells (LA.map swapL)) from Rd.next HL2.out hb6)
      clear HL2
      have HC16 := Lib.hid (show Rd w6 w6.heap.size 4 (.slice AC1 CA.length cC1) CA.length (rcsCells CA) from Rd.next HC1.out hb6)
      clear HC1
      have HC26 := Lib.hid (show Rd w6 w6.heap.size 4 (.slice AC2 CA.length cC2) CA.length (rcsCells (CA.map swapR)) from Rd.next HC2.out hb6)
      clear HC2
      clear hw6 hb6 hcn hcm S1 S2 HQ4
      go_wp2_with fail
      go_loopw [16] (fun iv wr => ∃ k : Nat, iv = .int .i64 k ∧ k ≤ LA.length ∧ Below w6.heap.size w6 wr) (fun i _ => LA.length - (intOf i).toNat)
      case atStart => exact ⟨0, rfl, by omega, Below.refl _ _⟩
      case round =>
        obtain ⟨k, rfl, hkl, hbw⟩ := hrel
        by_cases hlt : k < LA.length
        · obtain ⟨⟨⟨a1, a2, a3, a4⟩, pd⟩, hn⟩ : ∃ n, LA[k]? = some n := ⟨_, List.getElem?_eq_getElem hlt⟩
          have hm : (LA.map swapL)[k]? = some ⟨⟨a3, a4, a1, a2⟩, pd⟩ := by rw [List.getElem?_map, hn]; rfl
          obtain ⟨b1, o1, rfl, hb1, x0, x1, x2, x3, x4⟩ := Rd.lf_at (Rd.next HL16.out hbw) hn
          obtain ⟨b2, o2, rfl, hb2, y0, y1, y2, y3, y4⟩ := Rd.lf_at (l := LA.map swapL) (by rw [List.length_map]; exact Rd.next HL26.out hbw) hm
          simp only at x0 x1 x2 x3 x4 y0 y1 y2 y3 y4
          have cx : ∀ d os, (grow (redrawn wr d) os).cell? ⟨b1, o1 + k * 5, none⟩ = some (.int .i64 a1) ∧ (grow (redrawn wr d) os).cell? ⟨b1, o1 + k * 5 + 1, none⟩ = some (.int .i64 a2) ∧ (grow (redrawn wr d) os).cell? ⟨b1, o1 + k * 5 + 2, none⟩ = some (.int .i64 a3) ∧ (grow (redrawn wr d) os).cell? ⟨b1, o1 + k * 5 + 3, none⟩ = some (.int .i64 a4) ∧ (grow (redrawn wr d) os).cell? ⟨b1, o1 + k * 5 + 4, none⟩ = some (.int .i64 pd) := fun d os => ⟨cell_regrown x0 d os, cell_regrown x1 d os, cell_regrown x2 d os, cell_regrown x3 d os, cell_regrown x4 d os⟩
          have cy : ∀ d os, (grow (redrawn wr d) os).cell? ⟨b2, o2 + k * 5, none⟩ = some (.int .i64 a3) ∧ (grow (redrawn wr d) os).cell? ⟨b2, o2 + k * 5 + 1, none⟩ = some (.int .i64 a4) ∧ (grow (redrawn wr d) os).cell? ⟨b2, o2 + k * 5 + 2, none⟩ = some (.int .i64 a1) ∧ (grow (redrawn wr d) os).cell? ⟨b2, o2 + k * 5 + 3, none⟩ = some (.int .i64 a2) ∧ (grow (redrawn wr d) os).cell? ⟨b2, o2 + k * 5 + 4, none⟩ = some (.int .i64 pd) := fun d os => ⟨cell_regrown y0 d os, cell_regrown y1 d os, cell_regrown y2 d os, cell_regrown y3 d os, cell_regrown y4 d os⟩
          have S1 : Hid (∀ d os, Calls Tryd.prog 33 #[.agg #[.int .i64 a1, .int .i64 a2, .int .i64 a3, .int .i64 a4]] (grow (redrawn wr d) os) fun e w' => e = .returned (.agg #[.int .i64 a3, .int .i64 a4, .int .i64 a1, .int .i64 a2]) ∧ Below (grow (redrawn wr d) os).heap.size (grow (redrawn wr d) os) w') := fun d os => swap_any ⟨a1, a2, a3, a4⟩ _
          have f1 : (0 : Int) ≤ (k : Int) := by omega
          have f2 : (k : Int) < (LA.length : Int) := by omega
          have HBW := Lib.hid hbw
          clear hn hm hb1 hb2 x0 x1 x2 x3 x4 y0 y1 y2 y3 y4 hbw
          go_wp2_with fail
          refine wp_region_quiet_below (by kernel_rfl) (by kernel_rfl) ?_
          repeat (first
            | (open Go.BigFrame in go_big_quiet_step ((with_reducible exact Calls.regrown_of (S1.out _ _))))
            | (quiet_step ((with_reducible exact Calls.regrown_of (S1.out _ _)))))
          refine wpQuiet_nil ?_
          rintro w7 ⟨z7, hw7⟩
          have HB7 := Lib.hid (bel_call HBW.out (show Below wr.heap.size wr w7 by rw [hw7]; exact below_regrown _ _ _))
          clear hw7 cx cy S1
          go_wp2_with fail
          exact ⟨⟨k + 1, by go_num, by omega, HB7.out⟩, by simp [intOf]; omega⟩
        · have HBR := Lib.hid (bel_call HB6.out hbw)
          have HC7 := Lib.hid (Rd.next HC16.out hbw)
          have HC8 := Lib.hid (Rd.next HC26.out hbw)
          obtain ⟨w8, hw8⟩ : ∃ w, wr = w := ⟨_, rfl⟩
          rw [hw8] at HBR HC7 HC8 ⊢
          clear hw8 hbw
          go_wp2_with fail
          go_loopw [17] (fun iv wr => ∃ k : Nat, iv = .int .i64 k ∧ k ≤ CA.length ∧ Below w8.heap.size w8 wr) (fun i _ => CA.length - (intOf i).toNat)
          case atStart => exact ⟨0, rfl, by omega, Below.refl _ _⟩
          case round =>
            obtain ⟨k, rfl, hkl, hbw⟩ := hrel
            by_cases hlt : k < CA.length
            · obtain ⟨⟨a1, a2, a3, a4⟩, hn⟩ : ∃ n, CA[k]? = some n := ⟨_, List.getElem?_eq_getElem hlt⟩
              have hm : (CA.map swapR)[k]? = some ⟨a3, a4, a1, a2⟩ := by rw [List.getElem?_map, hn]; rfl
              obtain ⟨b1, o1, rfl, hb1, x0, x1, x2, x3⟩ := Rd.rc_at (Rd.next HC7.out hbw) hn
              obtain ⟨b2, o2, rfl, hb2, y0, y1, y2, y3⟩ := Rd.rc_at (l := CA.map swapR) (by rw [List.length_map]; exact Rd.next HC8.out hbw) hm
              simp only at x0 x1 x2 x3 y0 y1 y2 y3
              have cx : ∀ d os, (grow (redrawn wr d) os).cell? ⟨b1, o1 + k * 4, none⟩ = some (.int .i64 a1) ∧ (grow (redrawn wr d) os).cell? ⟨b1, o1 + k * 4 + 1, none⟩ = some (.int .i64 a2) ∧ (grow (redrawn wr d) os).cell? ⟨b1, o1 + k * 4 + 2, none⟩ = some (.int .i64 a3) ∧ (grow (redrawn wr d) os).cell? ⟨b1, o1 + k * 4 + 3, none⟩ = some (.int .i64 a4) := fun d os => ⟨cell_regrown x0 d os, cell_regrown x1 d os, cell_regrown x2 d os, cell_regrown x3 d os⟩
              have cy : ∀ d os, (grow (redrawn wr d) os).cell? ⟨b2, o2 + k * 4, none⟩ = some (.int .i64 a3) ∧ (grow (redrawn wr d) os).cell? ⟨b2, o2 + k * 4 + 1, none⟩ = some (.int .i64 a4) ∧ (grow (redrawn wr d) os).cell? ⟨b2, o2 + k * 4 + 2, none⟩ = some (.int .i64 a1) ∧ (grow (redrawn wr d) os).cell? ⟨b2, o2 + k * 4 + 3, none⟩ = some (.int .i64 a2) := fun d os => ⟨cell_regrown y0 d os, cell_regrown y1 d os, cell_regrown y2 d os, cell_regrown y3 d os⟩
              have S1 : Hid (∀ d os, Calls Tryd.prog 33 #[.agg #[.int .i64 a1, .int .i64 a2, .int .i64 a3, .int .i64 a4]] (grow (redrawn wr d) os) fun e w' => e = .returned (.agg #[.int .i64 a3, .int .i64 a4, .int .i64 a1, .int .i64 a2]) ∧ Below (grow (redrawn wr d) os).heap.size (grow (redrawn wr d) os) w') := fun d os => swap_any ⟨a1, a2, a3, a4⟩ _
              have f1 : (0 : Int) ≤ (k : Int) := by omega
              have f2 : (k : Int) < (CA.length : Int) := by omega
              have HBW := Lib.hid hbw
              clear hn hm hb1 hb2 x0 x1 x2 x3 y0 y1 y2 y3 hbw
              go_wp2_with fail
              refine wp_region_quiet_below (by kernel_rfl) (by kernel_rfl) ?_
              repeat (first
                | (open Go.BigFrame in go_big_quiet_step ((with_reducible exact Calls.regrown_of (S1.out _ _))))
                | (quiet_step ((with_reducible exact Calls.regrown_of (S1.out _ _)))))
              refine wpQuiet_nil ?_
              rintro w9 ⟨z9, hw9⟩
              have HB9 := Lib.hid (bel_call HBW.out (show Below wr.heap.size wr w9 by rw [hw9]; exact below_regrown _ _ _))
              clear hw9 cx cy S1
              go_wp2_with fail
              exact ⟨⟨k + 1, by go_num, by omega, HB9.out⟩, by simp [intOf]; omega⟩
            · have HBE := Lib.hid (bel_call HBR.out hbw)
              clear hbw
              go_wp2_with fail
              refine (awake_any wr (HV.out.next HBE.out)).mono ?_
              rintro e w9 ⟨he, hb9⟩
              subst he
              have HB9 := Lib.hid (bel_call HBE.out hb9)
              clear hb9
              go_wp2_with fail
              go_ret
              exact ⟨rfl, HB9.out⟩
end Go.Proofs.YtbmcfodhjibooaaDoor
