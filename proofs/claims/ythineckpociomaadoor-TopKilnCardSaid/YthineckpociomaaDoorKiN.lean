/-
  The contracts of slices.Clone of defects and of charge.dried.
-/
import Derived.Test.YthineckpociomaaDoorKiM
namespace Go.Proofs.YthineckpociomaaDoor
open Go.RowKit Saw Go.Sort

theorem info_df : (Tryd.prog.info? 88).map (fun i => (i.zero, i.size, i.bytes)) = some (some (.agg #[.int .i64 0, .int .i64 0, .int .i64 0, .int .i64 0, .int .i64 0, .int .i64 0, .int .i64 0]), 7, 56) := by kernel_rfl
/-- Defects that can be read: n of them. -/
def DfOk (w : World) (B : Nat) (v : Value) (n : Nat) : Prop := ∃ xs, Rd w B 7 v n xs ∧ ∀ u ∈ xs, u.oneCell' = true
theorem DfOk.next {w w' : World} {v : Value} {n : Nat} (h : DfOk w w.heap.size v n) (hb : Below w.heap.size w w') : DfOk w' w'.heap.size v n := by
  obtain ⟨xs, h1, h2⟩ := h
  exact ⟨xs, Rd.next h1 hb, h2⟩
def ClonePostD (n : Nat) (w : World) (e : Ending) (w' : World) : Prop := ∃ A c, e = .returned (.slice A n c) ∧ Below w.heap.size w w'
set_option maxRecDepth 100000 in
set_option maxHeartbeats 1000000 in
theorem cloneD_any (n : Nat) (A : Option Addr) (c : Nat) (w : World) (hd : DfOk w w.heap.size (.slice A n c) n) (hle : n ≤ 100000) :
    Calls Tryd.prog 31 #[.slice A n c] w (ClonePostD n w) := by
  obtain ⟨xs, hrd, hmem⟩ := hd
  cases A with
  | none =>
    have hl : n = 0 := by
      rcases Nat.eq_zero_or_pos n with h0 | h0
      · exact h0
      · obtain ⟨_, _, A, c, he, _, h⟩ := hrd; obtain ⟨b, off, h, _⟩ := h h0; injection he with he _ _; rw [h] at he; cases he
    subst hl
    have hnil : ∀ W, (binOp .eql 36 (.slice none 0 c) (.slice none 0 0)).run Tryd.prog W = .ok (.bool true) W := fun W => Lib.run_eql_slice_nil_nil W _ _ Tryd.underlying36
    go_enter Tryd.func31, Tryd.ntmps31
    go_wp2_with fail
    go_ret
    exact ⟨none, 0, rfl, Below.refl _ _⟩
  | some a =>
    have HRD := Lib.hid hrd
    clear hrd
    have hnil : ∀ W, (binOp .eql 36 (.slice (some a) n c) (.slice none 0 0)).run Tryd.prog W = .ok (.bool false) W := fun W => Lib.run_eql_slice_some_nil W _ _ _ Tryd.underlying36
    obtain ⟨i0, hi0, hq0, hq1, hq2⟩ := info_parts info_df
    have HX0 := Lib.hid ((Below.refl w.heap.size w).alloc (Nat.le_refl _) (.cells #[] 88))
    have HOWN0 := Lib.hid (show (w.alloc (.cells #[] 88)).ownsRow w.heap.size 88 7 (.slice (some ⟨w.heap.size, 0, none⟩) 0 0) 0 [] from ownsRow_new (cs := []) (Nat.le_refl _) rfl (by decide))
    have HL := Lib.hid hle
    have HME := Lib.hid hmem
    clear hle hmem
    go_enter Tryd.func31, Tryd.ntmps31
    go_wp2_with ((refine wpList_append_rows _ rfl _ _ 36 rfl w.heap.size 88 i0 _ 7 56 Tryd.underlying36 hi0 hq0 hq1 hq2 rfl (by omega) _ 0 [] rfl HOWN0.out _ rfl n _ xs (Rd.next HRD.out HX0.out) HME.out (by have h9 := HL.out; simp only [maxLen]; omega) (by have h9 := HL.out; omega) HX0.out.size ?_); intro v5 w5 hown5 hg5; have HOWN5 := Lib.hid hown5; have HB5 := Lib.hid (HX0.out.grown hg5 HX0.out.size (fun g hg => by have h9 : some w.heap.size = some g := hg; injection h9 with h9; omega)); clear hown5 hg5)
    go_ret
    have ho5 : w5.ownsRow w.heap.size 88 7 v5 n xs := by have h9 := HOWN5.out; rw [Nat.zero_add, List.nil_append] at h9; exact h9
    obtain ⟨_, _, A5, c5, rfl, _, _⟩ := Rd.of_own ho5
    exact ⟨A5, c5, rfl, HB5.out⟩

/-- What dried makes of boards and items: the boards, their defects anew. -/
def DriedB (l : List Bd) (its : List (Int × Cl)) (r : List Bd) : Prop := r.length = its.length ∧ ∀ (i : Nat) (b : Bd) (x : Int × Cl), l[i]? = some b → its[i]? = some x → ∃ A c, r[i]? = some (driedB b A c x.2)
theorem dried_snoc {l : List Bd} {its : List (Int × Cl)} {r : List Bd} {k : Nat} {b : Bd} {x : Int × Cl} {A : Option Addr} {c : Nat} (h : DriedB l (its.take k) r) (hk : k < its.length) (hb : l[k]? = some b) (hx : its[k]? = some x) : DriedB l (its.take (k + 1)) (r ++ [driedB b A c x.2]) := by
  obtain ⟨h1, h2⟩ := h
  rw [List.length_take] at h1
  refine ⟨by rw [List.length_append, List.length_take]; simp; omega, fun i b' x' hb' hx' => ?_⟩
  by_cases hi : i < k
  · obtain ⟨A', c', h3⟩ := h2 i b' x' hb' (by rw [List.getElem?_take_of_lt hi]; rw [List.getElem?_take_of_lt (by omega)] at hx'; exact hx')
    exact ⟨A', c', by rw [List.getElem?_append_left (by omega)]; exact h3⟩
  · have hlt := (List.getElem?_eq_some_iff.1 hx').1
    rw [List.length_take] at hlt
    have : i = k := by omega
    subst this
    rw [List.getElem?_take_of_lt (by omega)] at hx'
    rw [hb] at hb'
    rw [hx] at hx'
    injection hb' with hb'
    injection hx' with hx'
    subst hb' hx'
    exact ⟨A, c, by rw [List.getElem?_append_right (by omega), show i - r.length = 0 by omega]; rfl⟩
theorem bos_mem (l : List Bd) : ∀ u ∈ bosCells l, u.oneCell' = true := by
  intro u hu
  obtain ⟨x, _, hx⟩ := List.mem_flatMap.1 hu
  exact bo_mem x u hx
theorem info_bo : (Tryd.prog.info? 40).map (fun i => (i.zero, i.size, i.bytes)) = some (some (.agg #[.string ⟨#[]⟩, .string ⟨#[]⟩, .string ⟨#[]⟩, .int .i64 0, .int .i64 0, .int .i64 0, .int .i64 0, .int .i64 0, .int .i64 0, .int .i64 0, .int .i64 0, .slice none 0 0, .int .i64 0, .int .i64 0, .int .i64 0, .int .i64 0, .bool false, .int .i64 0]), 18, 184) := by kernel_rfl

theorem rdBo_one {w : World} {x : Bd} (h : (w.alloc (.cells (boCells x).toArray 40)).heap[w.heap.size]? = some (.cells (boCells x).toArray 40 (0, 0))) : Rd (w.alloc (.cells (boCells x).toArray 40)) (w.alloc (.cells (boCells x).toArray 40)).heap.size 18 (.slice (some ⟨w.heap.size, 0, none⟩) 1 1) 1 (boCells x) := by
  have hz := (Array.getElem?_eq_some_iff.1 h).1
  refine ⟨rfl, show 1 ≤ maxLen by decide, some ⟨w.heap.size, 0, none⟩, 1, rfl, Nat.le_refl _, fun _ => ⟨w.heap.size, 0, rfl, hz, fun i y hy => ?_⟩⟩
  rw [cell_of_row _ w.heap.size (0 + i) _ _ _ h, Nat.zero_add, List.getElem?_toArray]
  exact hy
set_option maxRecDepth 100000 in
set_option maxHeartbeats 8000000 in
theorem chDried_any (l : List Bd) (its : List (Int × Cl)) (A : Option Addr) (c : Nat) (A2 : Option Addr) (c2 : Nat) (w : World) (hrd : RdBo w (.slice A l.length c) l) (hit : RdIt w w.heap.size (.slice A2 its.length c2) its) (hll : its.length ≤ l.length) (hl : l.length ≤ 1000)
    (hdf : ∀ b ∈ l, DfOk w w.heap.size (.slice b.da b.dn b.dc) b.dn ∧ b.dn ≤ 1000) :
    Calls Tryd.prog 15 #[.slice A l.length c, .slice A2 its.length c2] w (fun e w' => ∃ A' c' r, e = .returned (.slice A' its.length c') ∧ DriedB l its r ∧ w'.ownsRow w.heap.size 40 18 (.slice A' its.length c') its.length (bosCells r) ∧ Below w.heap.size w w') := by
  have HRD := Lib.hid hrd
  have HIT := Lib.hid hit
  have HDF := Lib.hid hdf
  have HL := Lib.hid hl
  have HLL := Lib.hid hll
  have hil : its.length ≤ 1000 := by omega
  clear hrd hit hdf hl hll
  obtain ⟨i0, hi0, hq0, hq1, hq2⟩ := info_parts info_bo
  go_enter Tryd.func15, Tryd.ntmps15
  go_wp2_with ((refine wpList_make_own _ rfl _ _ 22 rfl w.heap.size 40 i0 _ 18 Tryd.underlying22 hi0 hq0 hq1 .i64 .i64 _ its.length rfl rfl rfl (by rw [hq2]; omega) (by simp only [maxLen]; omega) (Nat.le_refl _) ?_); intro w1 hown1 hg1; have HO1 := Lib.hid hown1; have HB1 := Lib.hid ((Below.refl w.heap.size w).grown hg1 (Nat.le_refl _) (fun g hg => by cases hg)); clear hown1 hg1)
  go_loopw [5, 14] (fun s i wr => ∃ (k : Nat) (sv : Value) (r : List Bd), sv = s ∧ k ≤ its.length ∧ i = .int .i64 k ∧ wr.ownsRow w.heap.size 40 18 sv k (bosCells r) ∧ DriedB l (its.take k) r ∧ Below w.heap.size w wr) (fun _ i _ => its.length - (intOf i).toNat)
  case atStart => exact ⟨0, _, [], rfl, by omega, rfl, HO1.out, ⟨by rw [List.take_zero]; rfl, fun i b x _ h => by rw [List.take_zero] at h; cases h⟩, HB1.out⟩
  case round =>
    obtain ⟨k, sv, r, rfl, hk, rfl, ho, hdr, hb⟩ := hrel
    have HO := Lib.hid ho
    have HDR := Lib.hid hdr
    have HB := Lib.hid hb
    have hszr := hb.size
    by_cases hlt : k < its.length
    · have hx : its[k]? = some its[k] := List.getElem?_eq_getElem hlt
      obtain ⟨x, hxe⟩ : ∃ x, its[k] = x := ⟨_, rfl⟩
      rw [hxe] at hx
      have hkl : k < l.length := by have := HLL.out; omega
      have hbx : l[k]? = some l[k] := List.getElem?_eq_getElem hkl
      obtain ⟨b, hbe⟩ : ∃ b, l[k] = b := ⟨_, rfl⟩
      rw [hbe] at hbx
      obtain ⟨ib, io, rfl, hibl, d0, d1, d2, d3⟩ := (HIT.out.below hb).at_ hx
      obtain ⟨bb, bo, rfl, hbbl, hrg⟩ := RdBo.at_ HRD.out hbx
      have HRG := Lib.hid (rangeAt_below hb hbbl hrg)
      obtain ⟨hdf1, hdf2⟩ := HDF.out b (List.mem_of_getElem? hbx)
      have HDF1 := Lib.hid hdf1
      have HXB := Lib.hid (And.intro hx hbx)
      have hbr : bb < wr.heap.size := by omega
      clear hb ho hdr hx hxe hbx hbe hrg hdf1
      go_upto_region 5 with fail
      obtain ⟨W4, hW4⟩ : ∃ W4, wr.alloc (.cells #[.int .i64 x.1, .int .i64 x.2.surf, .int .i64 x.2.core, .int .i64 x.2.stress] 60) = W4 := ⟨_, rfl⟩
      obtain ⟨n1, hn1⟩ : ∃ n, wr.heap.size = n := ⟨_, rfl⟩
      have hz4 : W4.heap.size = n1 + 1 := by rw [← hW4, World.size_alloc, hn1]
      have HI4 := Lib.hid (show W4.heap[n1]? = some (.cells #[.int .i64 x.1, .int .i64 x.2.surf, .int .i64 x.2.core, .int .i64 x.2.stress] 60 (0, 0)) by rw [← hW4, ← hn1]; exact heap_alloc_last wr _)
      have HB4 := Lib.hid (show Below wr.heap.size wr W4 by rw [← hW4]; exact bel_alloc (Below.refl _ _))
      have HRG4 := Lib.hid (rangeAt_below HB4.out hbr HRG.out)
      rw [hW4]
      rw [hn1] at hszr hbr ⊢
      have HN1 := Lib.hid hn1
      obtain ⟨n2, hn2⟩ : ∃ n, W4.heap.size = n := ⟨_, rfl⟩
      have HN2 := Lib.hid hn2
      have hn12 : n1 < n2 := by omega
      clear hW4 hn1 hz4 hn2
      go_upto_region 6 with (first
        | ((with_reducible refine bo_load bb (bo + k * 18) b ?hx HRG4.out ?_); (case hx => rfl))
        | ((with_reducible refine bo_alloc ?_); intro c5 H5)
        | ((with_reducible refine bo_new b W4.heap.size ?hx rfl ?hy H5 ?_); (case hx => rfl); (case hy => rfl); (try simp only [Act.put, List.setIfInBounds_toArray, List.set_cons_zero, List.set_cons_succ])))
      obtain ⟨W5, hW5⟩ : ∃ W5, W4.alloc (.cells (boCells b).toArray 40) = W5 := ⟨_, rfl⟩
      have HY5 := Lib.hid (show W5.heap[n2]? = some (.cells (boCells b).toArray 40 (0, 0)) by rw [← hW5, ← HN2.out]; exact heap_alloc_last W4 _)
      have HI5 := Lib.hid (show W5.heap[n1]? = some (.cells #[.int .i64 x.1, .int .i64 x.2.surf, .int .i64 x.2.core, .int .i64 x.2.stress] 60 (0, 0)) by rw [← hW5]; exact (Below.heap_alloc _ _ _ (by have := HN2.out; omega)).trans HI4.out)
      have HB5 := Lib.hid (show Below wr.heap.size wr W5 by rw [← hW5]; exact bel_alloc HB4.out)
      have HBW5 := Lib.hid (HB.out.trans (HB5.out.mono (by rw [HN1.out]; omega)))
      rw [hW5, HN2.out]
      have y11 : W5.cell? ⟨n2, 11, none⟩ = some (.slice b.da b.dn b.dc) := cell_of_row W5 n2 11 _ _ _ HY5.out
      clear hW5
      go_wp2_with fail
      refine (cloneD_any b.dn b.da b.dc W5 (HDF1.out.next HBW5.out) (by omega)).mono ?_
      rintro e w6 ⟨A6, c6, rfl, hb6⟩
      have HB6 := Lib.hid (HB5.out.trans (hb6.mono HB5.out.size))
      have hy6 := (hb6.block _ (Array.getElem?_eq_some_iff.1 HY5.out).1).trans HY5.out
      have hi6 := (hb6.block _ (Array.getElem?_eq_some_iff.1 HI5.out).1).trans HI5.out
      have q11 : w6.cell? ⟨n2, 11, none⟩ = some (.slice b.da b.dn b.dc) := cell_of_row w6 n2 11 _ _ _ hy6
      have f11 := frz hy6 11
      have HY6 := Lib.hid hy6
      have HI6 := Lib.hid hi6
      clear hb6 hy6 hi6 y11
      go_upto_region 7 with fail
      obtain ⟨W7, hW7⟩ : ∃ W7, w6.setCell ⟨n2, 11, none⟩ (.slice A6 b.dn c6) = W7 := ⟨_, rfl⟩
      have hy7 := setc_heap HY6.out (.slice A6 b.dn c6) 11
      have hi7 : (w6.setCell ⟨n2, 11, none⟩ (.slice A6 b.dn c6)).heap[n1]? = some (.cells #[.int .i64 x.1, .int .i64 x.2.surf, .int .i64 x.2.core, .int .i64 x.2.stress] 60 (0, 0)) := (Below.heap_setCell _ _ _ _ (by show n1 ≠ n2; omega)).trans HI6.out
      have HB7 := Lib.hid (show Below wr.heap.size wr W7 by rw [← hW7]; exact Below.setCell HB6.out (p := ⟨n2, 11, none⟩) (by show wr.heap.size ≤ n2; rw [HN1.out]; omega) _)
      rw [hW7] at hy7 hi7 ⊢
      have i1 : W7.cell? ⟨n1, 1, none⟩ = some (.int .i64 x.2.surf) := cell_of_row W7 n1 1 _ _ _ hi7
      have i2 : W7.cell? ⟨n1, 2, none⟩ = some (.int .i64 x.2.core) := cell_of_row W7 n1 2 _ _ _ hi7
      have i3 : W7.cell? ⟨n1, 3, none⟩ = some (.int .i64 x.2.stress) := cell_of_row W7 n1 3 _ _ _ hi7
      have q13 : W7.cell? ⟨n2, 13, none⟩ = some (.int .i64 b.surf) := cell_of_row W7 n2 13 _ _ _ hy7
      have q14 : W7.cell? ⟨n2, 14, none⟩ = some (.int .i64 b.core) := cell_of_row W7 n2 14 _ _ _ hy7
      have q15 : W7.cell? ⟨n2, 15, none⟩ = some (.int .i64 b.stress) := cell_of_row W7 n2 15 _ _ _ hy7
      have q16 : W7.cell? ⟨n2, 16, none⟩ = some (.bool b.dried) := cell_of_row W7 n2 16 _ _ _ hy7
      have f13 := frz hy7 13
      have f14 := frz hy7 14
      have f15 := frz hy7 15
      have f16 := frz hy7 16
      have HY7 := Lib.hid hy7
      clear hW7 q11 f11 hy7 hi7
      go_upto_region 9 with fail
      obtain ⟨W9, hW9⟩ : ∃ W9, (((W7.setCell ⟨n2, 13, none⟩ (.int .i64 x.2.surf)).setCell ⟨n2, 14, none⟩ (.int .i64 x.2.core)).setCell ⟨n2, 15, none⟩ (.int .i64 x.2.stress)).setCell ⟨n2, 16, none⟩ (.bool true) = W9 := ⟨_, rfl⟩
      have HY9 := Lib.hid (show W9.heap[n2]? = some (.cells (boCells (driedB b A6 c6 x.2)).toArray 40 (0, 0)) by
        rw [← hW9]
        exact setc_heap (setc_heap (setc_heap (setc_heap HY7.out _ 13) _ 14) _ 15) _ 16)
      have hle2 : wr.heap.size ≤ n2 := by rw [HN1.out]; omega
      have HB9 := Lib.hid (show Below wr.heap.size wr W9 by
        rw [← hW9]
        exact Below.setCell (Below.setCell (Below.setCell (Below.setCell HB7.out (p := ⟨n2, 13, none⟩) hle2 _) (p := ⟨n2, 14, none⟩) hle2 _) (p := ⟨n2, 15, none⟩) hle2 _) (p := ⟨n2, 16, none⟩) hle2 _)
      rw [hW9]
      clear hW9 i1 i2 i3 q13 q14 q15 q16 f13 f14 f15 f16
      obtain ⟨y, hy⟩ : ∃ y, driedB b A6 c6 x.2 = y := ⟨_, rfl⟩
      have HYE := Lib.hid hy
      rw [hy] at HY9
      clear hy
      have HO9 := Lib.hid (ownsRow_below HO.out HB9.out)
      have HYR := Lib.hid (show W9.rangeAt n2 0 (boCells y) from rangeAt_block HY9.out)
      have HBW9 := Lib.hid (HB.out.trans (HB9.out.mono HB.out.size))
      have HBA : Hid (Below w.heap.size w (W9.alloc (.cells (boCells y).toArray 40))) := Lib.hid (bel_alloc HBW9.out)
      have HOA : Hid ((W9.alloc (.cells (boCells y).toArray 40)).ownsRow w.heap.size 40 18 sv k (bosCells r)) := Lib.hid (ownsRow_below HO9.out (bel_alloc (Below.refl _ _)))
      have HRN := Lib.hid (rdBo_one (heap_alloc_last W9 (.cells (boCells y).toArray 40)))
      have HBS := Lib.hid (fun g' (hg' : sv.ownBlock = some g') => ownsRow_base HO.out hg')
      go_wp2_with (first
        | ((with_reducible refine bo_load n2 0 y ?hx HYR.out ?_); (case hx => rfl))
        | ((with_reducible refine wpList_sliceAs (t := 22) 18 (boCells y).toArray Tryd.underlying22 bo_info bo_zero ?h1 ?h2 ?hf ?_); (case h1 => decide); (case h2 => decide); (case hf => kernel_rfl); intro arr harr; subst harr)
        | ((refine wpList_append_rows _ rfl _ _ 22 rfl w.heap.size 40 i0 _ 18 184 Tryd.underlying22 hi0 hq0 hq1 hq2 rfl (by omega) _ k (bosCells r) rfl HOA.out _ rfl 1 _ (boCells y) HRN.out (bo_mem y) (by simp only [maxLen]; omega) (by omega) HBA.out.size ?_); intro v9 w9 hown9 hg9; have HOWN9 := Lib.hid hown9; have HBF := Lib.hid (HBA.out.grown hg9 HBA.out.size (fun g' hg' => HBS.out g' hg')); clear hown9 hg9; (try simp only [Act.put, List.setIfInBounds_toArray, List.set_cons_zero, List.set_cons_succ])))
      have HDN := Lib.hid (dried_snoc (A := A6) (c := c6) HDR.out hlt HXB.out.2 HXB.out.1)
      exact ⟨⟨k + 1, _, r ++ [y], rfl, by omega, by go_num, by rw [bosCells_snoc]; exact HOWN9.out, by rw [← HYE.out]; exact HDN.out, HBF.out⟩, by simp [intOf]; omega⟩
    · have hke : k = its.length := by omega
      subst hke
      have HDF := Lib.hid (show DriedB l its r by have h := HDR.out; rw [List.take_of_length_le (Nat.le_refl _)] at h; exact h)
      obtain ⟨_, _, A5, c5, rfl, _, _⟩ := Rd.of_own HO.out
      clear hb ho hdr
      go_wp2_with fail
      go_ret
      exact ⟨A5, c5, r, rfl, HDF.out, HO.out, HB.out⟩
end Go.Proofs.YthineckpociomaaDoor
