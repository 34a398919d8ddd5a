/-
  The contracts of charge.At and charge.steepest.
-/
import Derived.Test.YthineckpociomaaDoorKiJ
import Derived.Lib.OwnBridge
namespace Go.Proofs.YthineckpociomaaDoor
open Go.RowKit Saw Go.Sort

theorem mem_compact {zs : List Int} {x : Int} : x ∈ Lib.compact zs ↔ x ∈ zs := by
  constructor
  · intro h
    unfold Lib.compact Lib.compactUpTo at h
    obtain ⟨i, hi, rfl⟩ := List.mem_map.1 h
    have hi' : i < zs.length := List.mem_range.1 (List.mem_filter.1 hi).1
    simp [getElem!_pos, hi']
  · intro h
    obtain ⟨i, hi⟩ := List.getElem?_of_mem h
    have hlt := (List.getElem?_eq_some_iff.1 hi).1
    have key : ∀ j, j < zs.length → zs.toArray[j]! = x → x ∈ Lib.compact zs := by
      intro j
      induction j with
      | zero =>
        intro h0 hx
        refine List.mem_map.2 ⟨0, List.mem_filter.2 ⟨List.mem_range.2 h0, by simp [Lib.keeps]⟩, hx⟩
      | succ j ih =>
        intro h0 hx
        by_cases he : zs.toArray[j]! = x
        · exact ih (by omega) he
        · exact List.mem_map.2 ⟨j + 1, List.mem_filter.2 ⟨List.mem_range.2 h0, Lib.keeps_pos (by rw [hx]; exact fun e => he e.symm)⟩, hx⟩
    refine key i hlt ?_
    have he := (List.getElem?_eq_some_iff.1 hi).2
    simp [hlt, he]
theorem contains_compact (zs : List Int) (x : Int) : (Lib.compact (zs.mergeSort fun x y => decide (x ≤ y))).contains x = zs.contains x := by
  rw [Bool.eq_iff_iff, List.contains_iff_mem, List.contains_iff_mem, mem_compact, List.mem_mergeSort]
theorem ownsRow_grow {w : World} {base : Nat} {e : TypeId} {size : Nat} {v : Value} {n : Nat} {xs : List Value} (os : Array Obj) (h : w.ownsRow base e size v n xs) : (grow w os).ownsRow base e size v n xs := by
  obtain ⟨h1, h2⟩ := h
  refine ⟨h1, ?_⟩
  rcases h2 with h2 | ⟨g, cap, cur, hv, hb, hg, h3⟩
  · exact .inl h2
  · exact .inr ⟨g, cap, cur, hv, hb, by rw [heap_grow_old w os (Array.getElem?_eq_some_iff.1 hg).1]; exact hg, h3⟩
theorem ownsRow_below {w w' : World} {base : Nat} {e : TypeId} {size : Nat} {v : Value} {n : Nat} {xs : List Value} (h : w.ownsRow base e size v n xs) (hb : Below w.heap.size w w') : w'.ownsRow base e size v n xs := by
  obtain ⟨h1, h2⟩ := h
  refine ⟨h1, ?_⟩
  rcases h2 with h2 | ⟨g, cap, cur, hv, hb0, hg, h3⟩
  · exact .inl h2
  · exact .inr ⟨g, cap, cur, hv, hb0, (hb.block g (Array.getElem?_eq_some_iff.1 hg).1).trans hg, h3⟩
theorem ownsRow_base {w : World} {base g : Nat} {e : TypeId} {size : Nat} {v : Value} {n : Nat} {xs : List Value} (h : w.ownsRow base e size v n xs) (hg : v.ownBlock = some g) : base ≤ g := by
  obtain ⟨_, h2⟩ := h
  rcases h2 with ⟨rfl, _⟩ | ⟨b, cap, cur, rfl, hb, _⟩
  · cases hg
  · have : b = g := by injection hg
    omega
theorem ownsRow_ahead {w : World} {base : Nat} {e : TypeId} {size : Nat} {v : Value} {n : Nat} {xs : List Value} (q : Nat) (h : w.ownsRow base e size v n xs) : (Sort.ahead w q).ownsRow base e size v n xs := h
theorem below_grow {B : Nat} {w0 w : World} (h : Below B w0 w) (hB : B ≤ w.heap.size) (os : Array Obj) : Below B w0 (grow w os) :=
  ⟨h.os, h.tape, h.output, by have := h.size; simp; omega, fun k hk => (heap_grow_old w os (by omega)).trans (h.block k hk)⟩

/-- Faults in memory. -/
def faCells (x : Fa) : List Value := [.int .i64 x.kind, .int .i64 x.fro, .int .i64 x.upto]
def fasCells (l : List Fa) : List Value := l.flatMap faCells
theorem fasCells_cons (x : Fa) (l : List Fa) : fasCells (x :: l) = faCells x ++ fasCells l := rfl
theorem fasCells_length (l : List Fa) : (fasCells l).length = l.length * 3 := by
  induction l with
  | nil => rfl
  | cons x r ih => rw [fasCells_cons, List.length_append, ih, List.length_cons]; simp [faCells]; omega
theorem fas_at (l : List Fa) (i : Nat) (x : Fa) (h : l[i]? = some x) (j : Nat) (hj : j < 3) : (fasCells l)[i * 3 + j]? = (faCells x)[j]? := by
  induction l generalizing i with
  | nil => simp at h
  | cons y r ih =>
    have e : (faCells y).length = 3 := rfl
    rw [fasCells_cons]
    cases i with
    | zero =>
      simp only [List.getElem?_cons_zero, Option.some.injEq] at h
      subst h
      rw [List.getElem?_append_left (by rw [e]; omega), Nat.zero_mul, Nat.zero_add]
    | succ k =>
      simp only [List.getElem?_cons_succ] at h
      rw [List.getElem?_append_right (by rw [e]; omega), e, ← ih k h]
      congr 1
      omega
def RdFa (w : World) (B : Nat) (v : Value) (l : List Fa) : Prop := Rd w B 3 v l.length (fasCells l)
theorem RdFa.form {w : World} {B : Nat} {v : Value} {l : List Fa} (h : RdFa w B v l) : ∃ A c, v = .slice A l.length c ∧ l.length ≤ c ∧ l.length ≤ maxLen := by
  obtain ⟨_, h2, A, c, rfl, hc, _⟩ := h
  exact ⟨A, c, rfl, hc, h2⟩
theorem RdFa.at_ {w : World} {B : Nat} {A : Option Addr} {n c : Nat} {l : List Fa} (h : RdFa w B (.slice A n c) l) {i : Nat} {x : Fa} (hx : l[i]? = some x) :
    ∃ b off, A = some ⟨b, off, none⟩ ∧ b < B ∧ w.cell? ⟨b, off + i * 3, none⟩ = some (.int .i64 x.kind) ∧ w.cell? ⟨b, off + i * 3 + 1, none⟩ = some (.int .i64 x.fro) ∧ w.cell? ⟨b, off + i * 3 + 2, none⟩ = some (.int .i64 x.upto) := by
  obtain ⟨b, off, h1, h2, h3⟩ := Rd.rangeAt h (List.getElem?_eq_some_iff.1 hx).1 (show (faCells x).length = 3 from rfl) (fas_at l i x hx)
  exact ⟨b, off, h1, h2, h3 0 _ rfl, h3 1 _ rfl, h3 2 _ rfl⟩
theorem RdFa.below {w w' : World} {B : Nat} {v : Value} {l : List Fa} (h : RdFa w B v l) (hb : Below B w w') : RdFa w' B v l := Rd.below h hb
theorem faultsAt_take {fs : List Fa} {k : Nat} {x : Fa} {t : Int} (h : fs[k]? = some x) : faultsAt (fs.take (k + 1)) t = faultsAt (fs.take k) t ++ (if x.fro ≤ t ∧ t < x.upto then [x.kind] else []) := by
  unfold faultsAt
  rw [List.take_add_one, h, List.filter_append, List.map_append]
  congr 1
  by_cases h1 : x.fro ≤ t <;> by_cases h2 : t < x.upto <;> simp [h1, h2]
theorem faultsAt_len (fs : List Fa) (t : Int) : (faultsAt fs t).length ≤ fs.length := by
  unfold faultsAt
  rw [List.length_map]
  exact List.length_filter_le _ _
theorem ints_mem (l : List Int) : ∀ u ∈ ints l, u.oneCell' = true := by
  intro u hu
  obtain ⟨x, _, rfl⟩ := List.mem_map.1 hu
  rfl
theorem info_int : (Tryd.prog.info? 3).map (fun i => (i.zero, i.size, i.bytes)) = some (some (.int .i64 0), 1, 8) := by kernel_rfl
theorem rdI_one {w : World} {g : Nat} {x : Int} (h : w.heap[g]? = some (.cells #[.int .i64 x] 3 (0, 0))) : Rd w w.heap.size 1 (.slice (some ⟨g, 0, none⟩) 1 1) 1 (ints [x]) := by
  have hz : g < w.heap.size := (Array.getElem?_eq_some_iff.1 h).1
  refine ⟨rfl, show 1 ≤ maxLen by decide, some ⟨g, 0, none⟩, 1, rfl, Nat.le_refl _, fun _ => ⟨g, 0, rfl, hz, fun i y hy => ?_⟩⟩
  rw [cell_of_row w g (0 + i) _ _ _ h, Nat.zero_add, List.getElem?_toArray]
  exact hy

/-- What At leaves: a slice of its own, or nil, with the kinds of the faults that last. -/
def AtPost (fs : List Fa) (t : Int) (w : World) (e : Ending) (w' : World) : Prop :=
  ∃ v fl, e = .returned v ∧ RdI w' w'.heap.size v fl ∧ (∀ x, fl.contains x = (faultsAt fs t).contains x) ∧ Below w.heap.size w w' ∧ ∀ g, g < w.heap.size → v.ownBlock ≠ some g
set_option maxRecDepth 100000 in
set_option maxHeartbeats 4000000 in
theorem faAt_any (fs : List Fa) (t : Int) (v : Value) (w : World) (hrd : RdFa w w.heap.size v fs) (hlen : fs.length ≤ 1000) : Calls Tryd.prog 28 #[v, .int .i64 t] w (AtPost fs t w) := by
  obtain ⟨A, c, rfl, hc, hml⟩ := hrd.form
  have HRD := Lib.hid hrd
  have HL := Lib.hid hlen
  unfold maxLen at hml
  clear hrd
  obtain ⟨i0, hi0, hq0, hq1, hq2⟩ := info_parts info_int
  go_enter Tryd.func28, Tryd.ntmps28
  go_wp2_with fail
  go_loopw [5, 10] (fun s i wr => ∃ (k : Nat) (sv : Value), sv = s ∧ k ≤ fs.length ∧ i = .int .i64 k ∧ wr.ownsRow w.heap.size 3 1 sv (faultsAt (fs.take k) t).length (ints (faultsAt (fs.take k) t)) ∧ Below w.heap.size w wr) (fun _ i _ => fs.length - (intOf i).toNat)
  case atStart => exact ⟨0, _, rfl, by omega, rfl, by rw [List.take_zero]; exact ⟨rfl, .inl ⟨rfl, rfl⟩⟩, Below.refl _ _⟩
  case round =>
    obtain ⟨k, sv, rfl, hk, rfl, ho, hb⟩ := hrel
    have HB := Lib.hid hb
    have hszr := hb.size
    have HO := Lib.hid ho
    obtain ⟨zs, hzs⟩ : ∃ zs, faultsAt (fs.take k) t = zs := ⟨_, rfl⟩
    rw [hzs] at HO
    have hzl : zs.length ≤ 1000 := by have := faultsAt_len (fs.take k) t; rw [hzs, List.length_take] at this; have := HL.out; omega
    have HZ := Lib.hid hzs
    have HBS := Lib.hid (fun g' (hg' : sv.ownBlock = some g') => ownsRow_base HO.out hg')
    by_cases hlt : k < fs.length
    · have hx : fs[k]? = some fs[k] := List.getElem?_eq_getElem hlt
      obtain ⟨x, hxe⟩ : ∃ x, fs[k] = x := ⟨_, rfl⟩
      rw [hxe] at hx
      obtain ⟨b, off, rfl, hbl, d0, d1, d2⟩ := (HRD.out.below hb).at_ hx
      have HT := Lib.hid (faultsAt_take (t := t) hx)
      have HB2 := Lib.hid (fun o : Obj => (show Below w.heap.size w (wr.alloc o) from bel_alloc HB.out))
      clear hb ho hx hxe hzs
      by_cases h1 : x.fro ≤ t ∧ t < x.upto
      · obtain ⟨h1, h2⟩ := h1
        have g1 : decide (x.fro ≤ t) = true := decide_eq_true h1
        have g2 : decide (t < x.upto) = true := decide_eq_true h2
        have HT2 := Lib.hid (show faultsAt (fs.take (k + 1)) t = zs ++ [x.kind] by rw [HT.out, HZ.out, if_pos ⟨h1, h2⟩])
        have HH : Hid (∀ o1 o2 : Obj, Below w.heap.size w ((wr.alloc o1).alloc o2)) := Lib.hid (fun o1 o2 => bel_alloc (bel_alloc HB.out))
        have HOO : Hid (∀ o1 o2 : Obj, ((wr.alloc o1).alloc o2).ownsRow w.heap.size 3 1 sv zs.length (ints zs)) := Lib.hid (fun o1 o2 => ownsRow_below HO.out (bel_alloc (bel_alloc (Below.refl _ _))))
        have HRN : Hid (∀ o1 : Obj, Rd ((wr.alloc o1).alloc (.cells #[.int .i64 x.kind] 3)) ((wr.alloc o1).alloc (.cells #[.int .i64 x.kind] 3)).heap.size 1 (.slice (some ⟨wr.heap.size + 1, 0, none⟩) 1 1) 1 (ints [x.kind])) := Lib.hid (fun o1 => rdI_one (by have h9 := heap_alloc_last (wr.alloc o1) (.cells #[.int .i64 x.kind] 3); rw [World.size_alloc] at h9; exact h9))
        clear h1 h2
        go_wp2_with ((refine wpList_append_rows _ rfl _ _ 81 rfl w.heap.size 3 i0 _ 1 8 Tryd.underlying81 hi0 hq0 hq1 hq2 rfl (by omega) _ zs.length (ints zs) rfl (HOO.out _ _) _ rfl 1 _ (ints [x.kind]) (HRN.out _) (ints_mem _) (by simp only [maxLen]; omega) (by omega) (HH.out _ _).size ?_); intro v5 w5 hown5 hg5; have HOWN5 := Lib.hid hown5; have HB5 := Lib.hid ((HH.out _ _).grown hg5 (HH.out _ _).size (fun g' hg' => HBS.out g' hg')); clear hown5 hg5)
        exact ⟨⟨k + 1, _, rfl, by omega, by go_num, by rw [HT2.out, List.length_append, show ints (zs ++ [x.kind]) = ints zs ++ ints [x.kind] from List.map_append ..]; exact HOWN5.out, HB5.out⟩, by simp [intOf]; omega⟩
      · have HT2 := Lib.hid (show faultsAt (fs.take (k + 1)) t = zs by rw [HT.out, HZ.out, if_neg h1, List.append_nil])
        by_cases h2 : x.fro ≤ t
        · have g1 : decide (x.fro ≤ t) = true := decide_eq_true h2
          have g2 : decide (t < x.upto) = false := decide_eq_false (fun h => h1 ⟨h2, h⟩)
          have HOO : Hid (∀ o1 : Obj, (wr.alloc o1).ownsRow w.heap.size 3 1 sv zs.length (ints zs)) := Lib.hid (fun o1 => ownsRow_below HO.out (bel_alloc (Below.refl _ _)))
          clear h1
          go_wp2_with fail
          exact ⟨⟨k + 1, _, rfl, by omega, by go_num, by rw [HT2.out]; exact HOO.out _, HB2.out _⟩, by simp [intOf]; omega⟩
        · have g1 : decide (x.fro ≤ t) = false := decide_eq_false h2
          have HOO : Hid (∀ o1 : Obj, (wr.alloc o1).ownsRow w.heap.size 3 1 sv zs.length (ints zs)) := Lib.hid (fun o1 => ownsRow_below HO.out (bel_alloc (Below.refl _ _)))
          clear h1 h2
          go_wp2_with fail
          exact ⟨⟨k + 1, _, rfl, by omega, by go_num, by rw [HT2.out]; exact HOO.out _, HB2.out _⟩, by simp [intOf]; omega⟩
    · rw [List.take_of_length_le (by omega)] at HZ
      clear hb ho hzs
      by_cases h0 : zs.length = 0
      · have hz0 := List.length_eq_zero_iff.1 h0
        subst hz0
        have HF : Hid (∀ x, ([] : List Int).contains x = (faultsAt fs t).contains x) := Lib.hid (fun x => by rw [HZ.out])
        obtain ⟨_, _, A5, c5, rfl, _, _⟩ := Rd.of_own HO.out
        have HR5 := Lib.hid (show RdI wr wr.heap.size (.slice A5 0 c5) [] from Rd.of_own HO.out)
        go_wp2_with fail
        refine (Tryd.slices_Sort_int_none A5 c5 wr).mono ?_
        rintro e w1 ⟨he, rfl⟩
        subst he
        go_wp2_with fail
        refine (Tryd.slices_Compact_int_empty A5 c5 _).mono ?_
        rintro e w2 ⟨he, rfl⟩
        subst he
        go_wp2_with fail
        go_ret
        exact ⟨_, [], rfl, HR5.out, HF.out, HB.out, fun g hg h => absurd (HBS.out g h) (by omega)⟩
      · have hne : sv ≠ .slice none 0 0 := by
          rintro rfl
          rcases HO.out.2 with ⟨_, h⟩ | ⟨_, _, _, h, _⟩
          · exact h0 h
          · cases h
        obtain ⟨g, cap, rfl, hbg, hgl, hncap, hcm, _, hH⟩ := Lib.holds_of_ownsRow HO.out hne
        obtain ⟨ys, hys⟩ : ∃ ys, (zs.mergeSort fun x y => decide (x ≤ y)) = ys := ⟨_, rfl⟩
        have hyl : ys.length = zs.length := by rw [← hys, List.length_mergeSort]
        have hcl := Lib.compact_length_le ys
        have HCT : Hid (∀ x, (Lib.compact ys).contains x = (faultsAt fs t).contains x) := Lib.hid (fun x => by rw [← hys, contains_compact, HZ.out])
        have HS : Hid (Calls Tryd.prog 45 #[.slice (some ⟨g, 0, none⟩) zs.length cap] wr fun e w' => e = .returned (.tuple #[]) ∧ ∃ n os, w' = grow (putRow (Value.int .i64) (Sort.ahead wr n) g 0 ys.toArray) os) := Lib.hid (hys ▸ Tryd.slices_Sort_int g 0 cap zs wr hH hgl (by omega))
        unfold maxLen at hcm
        have HYL := Lib.hid hyl
        have HN := Lib.hid (And.intro hbg (And.intro hgl (And.intro hncap (And.intro hcm hcl))))
        clear hne hH hys hyl hbg hgl hncap hcm hcl
        go_wp2_with fail
        refine HS.out.mono ?_
        rintro e w1 ⟨he, n1, os1, hw1⟩
        subst he
        have HO1 := Lib.hid (show w1.ownsRow w.heap.size 3 1 (.slice (some ⟨g, 0, none⟩) zs.length cap) zs.length (ints ys) by
          rw [hw1]
          have h9 := Lib.ownsRow_putRow (q := n1) (k := zs.length) (ys := ys) HO.out HYL.out (Nat.le_refl _)
          rw [List.take_of_length_le (by rw [HYL.out]; exact Nat.le_refl _)] at h9
          exact ownsRow_grow os1 h9)
        have HB1 := Lib.hid (show Below w.heap.size w w1 by
          rw [hw1]
          have h9 := Lib.below_putRow (q := n1) (d := ys.toArray) (enc := Value.int .i64) HB.out HN.out.1
          exact below_grow h9 h9.size os1)
        clear hw1
        obtain ⟨g2, cap2, he2, _, hgl2, _, _, _, hH2⟩ := Lib.holds_of_ownsRow HO1.out (by nofun)
        have hgg : g2 = g ∧ cap2 = cap := by injection he2 with h1 h2 h3; injection h1 with h1; injection h1 with h1; exact ⟨h1.symm, h3.symm⟩
        obtain ⟨rfl, rfl⟩ := hgg
        have HC : Hid (Calls Tryd.prog 46 #[.slice (some ⟨g2, 0, none⟩) zs.length cap2] w1 fun e w' => e = .returned (.slice (some ⟨g2, 0, none⟩) (Lib.compact ys).length cap2) ∧ ∃ q, w' = putRow (Value.int .i64) (Sort.ahead w1 q) g2 0 (Lib.compact ys ++ List.replicate (ys.length - (Lib.compact ys).length) 0).toArray) := Lib.hid (HYL.out ▸ Tryd.slices_Compact_int g2 0 cap2 ys w1 hH2 (by rw [HYL.out]; omega) (by rw [HYL.out]; exact HN.out.2.2.1))
        clear he2 hgl2 hH2
        go_wp2_with fail
        refine HC.out.mono ?_
        rintro e w2 ⟨he, q2, hw2⟩
        subst he
        have HO2 := Lib.hid (show w2.ownsRow w.heap.size 3 1 (.slice (some ⟨g2, 0, none⟩) (Lib.compact ys).length cap2) (Lib.compact ys).length (ints (Lib.compact ys)) by
          rw [hw2]
          have h8 := HN.out.2.2.2.2
          have h9 := Lib.ownsRow_putRow (q := q2) (k := (Lib.compact ys).length) (ys := Lib.compact ys ++ List.replicate (ys.length - (Lib.compact ys).length) 0) HO1.out (by rw [List.length_append, List.length_replicate]; have := HYL.out; omega) (by have := HYL.out; omega)
          rw [List.take_left] at h9
          exact h9)
        have HB2 := Lib.hid (show Below w.heap.size w w2 by rw [hw2]; exact Lib.below_putRow HB1.out HN.out.1)
        clear hw2
        go_wp2_with fail
        go_ret
        exact ⟨_, Lib.compact ys, rfl, Rd.of_own HO2.out, HCT.out, HB2.out, fun g' hg' h => absurd (ownsRow_base HO2.out h) (by omega)⟩
end Go.Proofs.YthineckpociomaaDoor
