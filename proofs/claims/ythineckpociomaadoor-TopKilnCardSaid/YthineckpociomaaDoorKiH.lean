/-
  The contracts of kiln.still, steep, dried.
-/
import Derived.Test.YthineckpociomaaDoorKiG
import Derived.Deep.RegionHeld3
namespace Go.Proofs.YthineckpociomaaDoor
open Go.RowKit Saw Go.Sort

/-- The condition on the package's variable. -/
def VarsK (w : World) : Prop := (w.cell? ⟨0, 0, none⟩ = some (.bool false) ∧ w.cell? ⟨0, 1, none⟩ = some (.bool false) ∧ w.cell? ⟨0, 2, none⟩ = some (.bool true) ∧ w.cell? ⟨0, 3, none⟩ = some (.bool false)) ∧ 0 < w.heap.size
theorem VarsK.below {w w' : World} {B : Nat} (h : VarsK w) (hb : Below B w w') (hB : 0 < B) : VarsK w' := by
  obtain ⟨⟨h0, h1, h2, h3⟩, h4⟩ := h
  exact ⟨⟨(hb.cell (p := ⟨0, 0, none⟩) hB).trans h0, (hb.cell (p := ⟨0, 1, none⟩) hB).trans h1, (hb.cell (p := ⟨0, 2, none⟩) hB).trans h2, (hb.cell (p := ⟨0, 3, none⟩) hB).trans h3⟩, Nat.lt_of_lt_of_le h4 hb.size⟩
theorem VarsK.next {w w' : World} (h : VarsK w) (hb : Below w.heap.size w w') : VarsK w' := h.below hb h.2
theorem contains_step {l : List Int} {k : Nat} {x : Int} (h : l[k]? = some x) : (l.take (k + 1)).contains 2 = ((l.take k).contains 2 || x == 2) := by
  rw [List.take_add_one, h]
  simp only [Option.toList_some, List.contains_eq_any_beq, List.any_append, List.any_cons, List.any_nil, Bool.or_false]
  congr 1
  rw [Bool.eq_iff_iff, beq_iff_eq, beq_iff_eq]
  exact eq_comm
theorem contains_part {l : List Int} {k : Nat} (h : (l.take k).contains 2 = true) : l.contains 2 = true := by
  rw [List.contains_iff_mem] at h ⊢
  exact List.mem_of_mem_take h

set_option maxRecDepth 100000 in
set_option maxHeartbeats 2000000 in
theorem still_any (l : List Int) (v : Value) (w : World) (hrd : RdI w w.heap.size v l) (hv : VarsK w) :
    Calls Tryd.prog 40 #[v] w fun e w' => e = .returned (.bool (l.contains 2)) ∧ w' = w := by
  obtain ⟨A, c, rfl, hc, hml⟩ := hrd.form
  unfold maxLen at hml
  obtain ⟨⟨u0, u1, u2, u3⟩, _⟩ := hv
  have HRD := Lib.hid hrd
  obtain ⟨r, hr⟩ : ∃ r, l.contains 2 = r := ⟨_, rfl⟩
  have HR := Lib.hid hr
  rw [hr]
  clear hrd hr
  go_enter Tryd.func40, Tryd.ntmps40
  go_wp2_with fail
  go_loop [7] (fun i => ∃ k : Nat, k ≤ l.length ∧ i = .int .i64 k ∧ (l.take k).contains 2 = false) (fun i => l.length - (intOf i).toNat)
  case atStart => exact ⟨0, by omega, rfl, by rw [List.take_zero]; rfl⟩
  case round =>
    obtain ⟨k, hk, rfl, hn⟩ := hrel
    by_cases hlt : k < l.length
    · have hx : l[k]? = some l[k] := List.getElem?_eq_getElem hlt
      obtain ⟨x, hxe⟩ : ∃ x, l[k] = x := ⟨_, rfl⟩
      rw [hxe] at hx
      obtain ⟨b, off, rfl, hbl, q0⟩ := HRD.out.at_ hx
      have hst := contains_step hx
      rw [hn, Bool.false_or] at hst
      clear hx hxe hn
      by_cases h2 : x = 2
      · subst h2
        have HT := Lib.hid (HR.out.symm.trans (contains_part (hst.trans (by decide))))
        clear hst
        go_wp2_with fail
        go_ret
        exact ⟨by rw [HT.out]; rfl, rfl⟩
      · have HT := Lib.hid (hst.trans (beq_eq_false_iff_ne.2 h2))
        clear hst
        by_cases hneg : x < 0
        · have g0 : decide (0 ≤ x) = false := by rw [decide_eq_false_iff_not]; omega
          go_wp2_with fail
          exact ⟨⟨k + 1, by omega, by go_num, HT.out⟩, by simp [intOf]; omega⟩
        · by_cases hbig : 4 ≤ x
          · have g0 : decide (0 ≤ x) = true := by rw [decide_eq_true_eq]; omega
            have g1 : decide (x < 4) = false := by rw [decide_eq_false_iff_not]; omega
            go_wp2_with fail
            exact ⟨⟨k + 1, by omega, by go_num, HT.out⟩, by simp [intOf]; omega⟩
          · have h013 : x = 0 ∨ x = 1 ∨ x = 3 := by omega
            rcases h013 with rfl | rfl | rfl
            · clear hneg hbig h2
              go_wp2_with fail
              exact ⟨⟨k + 1, by omega, by go_num, HT.out⟩, by simp [intOf]; omega⟩
            · clear hneg hbig h2
              go_wp2_with fail
              exact ⟨⟨k + 1, by omega, by go_num, HT.out⟩, by simp [intOf]; omega⟩
            · clear hneg hbig h2
              go_wp2_with fail
              exact ⟨⟨k + 1, by omega, by go_num, HT.out⟩, by simp [intOf]; omega⟩
    · have HT := Lib.hid (show r = false by rw [← HR.out, ← hn, List.take_of_length_le (by omega)])
      clear hn
      go_wp2_with fail
      go_ret
      exact ⟨by rw [HT.out]; rfl, rfl⟩

/-- steep, part by part. -/
theorem steep_step {s : Sp} {l old : List (Int × Cl)} {j : Nat} {x y : Int × Cl} (hx : l[j]? = some x) (hy : old[j]? = some y) : steepP s (l.take (j + 1)) (old.take (j + 1)) = (steepP s (l.take j) (old.take j) || steepOf s (x, y)) := by
  have hl := (List.getElem?_eq_some_iff.1 hx).1
  have ho := (List.getElem?_eq_some_iff.1 hy).1
  unfold steepP
  rw [List.take_add_one, hx, List.take_add_one, hy, List.zip_append (by rw [List.length_take, List.length_take]; omega), List.any_append]
  simp
theorem steep_part {s : Sp} {l old : List (Int × Cl)} {j : Nat} (h : steepP s (l.take j) (old.take j) = true) : steepP s l old = true := by
  unfold steepP at h ⊢
  obtain ⟨p, hp, hq⟩ := List.any_eq_true.1 h
  obtain ⟨i, hi⟩ := List.getElem?_of_mem hp
  rw [List.getElem?_zip_eq_some] at hi
  have ht : ∀ (m : List (Int × Cl)) (z : Int × Cl), (m.take j)[i]? = some z → m[i]? = some z := fun m z hz => by
    rw [List.getElem?_take] at hz
    split at hz
    · exact hz
    · cases hz
  exact List.any_eq_true.2 ⟨p, List.mem_of_getElem? (i := i) (List.getElem?_zip_eq_some.2 ⟨ht _ _ hi.1, ht _ _ hi.2⟩), hq⟩

set_option maxRecDepth 100000 in
set_option maxHeartbeats 4000000 in
theorem steep_any (W : World) (g : Nat) (sc : Sc) (s : Sp) (sv iv : Value) (k : Ki) (l : List (Int × Cl)) (A : Option Addr) (c : Nat) (h : KnAt W g sc s sv iv k) (hl : RdIt W W.heap.size (.slice A l.length c) l) (hlen : l.length = k.items.length) :
    Calls Tryd.prog 42 #[.pointer (some ⟨g, 0, none⟩), .slice A l.length c] W (BoolB (steepP s l k.items) W) := by
  obtain ⟨A2, c2, rfl, hc2, hml2⟩ := h.it.form
  unfold maxLen at hml2
  have HK := Lib.hid h
  have HL := Lib.hid hl
  have HLEN := Lib.hid hlen
  obtain ⟨n, hn⟩ : ∃ n, l.length = n := ⟨_, rfl⟩
  have HN := Lib.hid hn
  have hkn : k.items.length = n := by rw [← hlen]; exact hn
  have hsz := h.sz
  rw [hkn] at HK hml2 hc2
  rw [hn] at HL ⊢
  have HKN := Lib.hid hkn
  clear h hl hlen hn hkn
  go_enter Tryd.func42, Tryd.ntmps42
  go_wp2_with fail
  go_loopw [10] (fun i wr => ∃ j : Nat, j ≤ n ∧ i = .int .i64 j ∧ steepP s (l.take j) (k.items.take j) = false ∧ Below W.heap.size W wr) (fun i _ => n - (intOf i).toNat)
  case atStart => exact ⟨0, by omega, rfl, by rw [List.take_zero]; rfl, Below.refl _ _⟩
  case round =>
    obtain ⟨j, hj, rfl, hst, hb⟩ := hrel
    have HB := Lib.hid hb
    have hszr := hb.size
    have HKR := Lib.hid (HK.out.below hb)
    by_cases hlt : j < n
    · have hx : l[j]? = some (l[j]'(by rw [HN.out]; exact hlt)) := List.getElem?_eq_getElem _
      obtain ⟨x, hxe⟩ : ∃ x, (l[j]'(by rw [HN.out]; exact hlt)) = x := ⟨_, rfl⟩
      rw [hxe] at hx
      have hy : k.items[j]? = some (k.items[j]'(by rw [HKN.out]; exact hlt)) := List.getElem?_eq_getElem _
      obtain ⟨y, hye⟩ : ∃ y, (k.items[j]'(by rw [HKN.out]; exact hlt)) = y := ⟨_, rfl⟩
      rw [hye] at hy
      obtain ⟨b, off, rfl, hbl, d0, d1, d2, d3⟩ := (HL.out.below hb).at_ hx
      have hbl2 : b < wr.heap.size := by omega
      have HS := Lib.hid (steep_step (s := s) hx hy)
      have HF := Lib.hid hst
      have HY := Lib.hid hy
      obtain ⟨W1, hW1⟩ : ∃ W1, wr.alloc (.cells #[.int .i64 x.1, .int .i64 x.2.surf, .int .i64 x.2.core, .int .i64 x.2.stress] 60) = W1 := ⟨_, rfl⟩
      have hbA : Below wr.heap.size wr W1 := by rw [← hW1]; exact bel_alloc (Below.refl _ _)
      have HB1 := Lib.hid (hb.trans (hbA.mono hszr))
      have HK1 := Lib.hid (HKR.out.below hbA)
      have hs1 : W1.heap.size = wr.heap.size + 1 := by rw [← hW1, World.size_alloc]
      have hit : W1.heap[wr.heap.size]? = some (.cells #[.int .i64 x.1, .int .i64 x.2.surf, .int .i64 x.2.core, .int .i64 x.2.stress] 60 (0, 0)) := by rw [← hW1]; exact heap_alloc_last wr _
      have n1 := cell_of_box (j := 1) (v := .int .i64 x.2.surf) hit rfl
      have n2 := cell_of_box (j := 2) (v := .int .i64 x.2.core) hit rfl
      have n3 := cell_of_box (j := 3) (v := .int .i64 x.2.stress) hit rfl
      clear hx hxe hy hye hb hst hbA hit
      go_wp2_with fail
      refine (gradient_any x.2 W1).mono ?_
      rintro e w2 ⟨he, hb2⟩
      subst he
      have HK2 := Lib.hid (HK1.out.below hb2)
      have HB2 := Lib.hid (HB1.out.trans (hb2.mono (by omega)))
      have hs2 := hb2.size
      have q0 := HK2.out.cell (j := 8) rfl
      have q1 := HK2.out.cell (j := 16) rfl
      clear hb2 hW1
      obtain ⟨G, hG⟩ : ∃ G, gradP x.2 = G := ⟨_, rfl⟩
      have HG := Lib.hid hG
      rw [hG]
      clear hG
      by_cases hgr : s.grad < G
      · have g0 : decide (s.grad < G) = true := by rw [decide_eq_true_eq]; exact hgr
        obtain ⟨b2, off2, rfl, hbl3, z0, z1, z2, z3⟩ := HK2.out.it.at_ HY.out
        go_wp2_with fail
        refine (gradient_any y.2 _).mono ?_
        rintro e w3 ⟨he, hb3⟩
        subst he
        have HB3 := Lib.hid (HB2.out.trans (hb3.mono (by omega)))
        clear hb3 q0 q1 z0 z1 z2 z3
        obtain ⟨G2, hG2⟩ : ∃ G2, gradP y.2 = G2 := ⟨_, rfl⟩
        rw [hG2]
        have HSO := Lib.hid (show steepOf s (x, y) = (decide (s.grad < G) && decide (G2 < G)) by rw [steepOf, HG.out, hG2])
        clear hG2
        by_cases h2 : G2 < G
        · have HT := Lib.hid (show steepP s l k.items = true from steep_part (j := j + 1) (by rw [HS.out, HSO.out, decide_eq_true hgr, decide_eq_true h2]; simp))
          go_wp2_with fail
          go_ret
          exact ⟨by rw [HT.out]; rfl, HB3.out⟩
        · have HT := Lib.hid (show steepP s (l.take (j + 1)) (k.items.take (j + 1)) = false by rw [HS.out, HF.out, HSO.out, decide_eq_false h2]; simp)
          go_wp2_with fail
          exact ⟨⟨j + 1, by omega, by go_num, HT.out, HB3.out⟩, by simp [intOf]; omega⟩
      · have g0 : decide (s.grad < G) = false := by rw [decide_eq_false_iff_not]; exact hgr
        have HT := Lib.hid (show steepP s (l.take (j + 1)) (k.items.take (j + 1)) = false by rw [HS.out, HF.out, steepOf, HG.out, g0]; simp)
        go_wp2_with fail
        exact ⟨⟨j + 1, by omega, by go_num, HT.out, HB2.out⟩, by simp [intOf]; omega⟩
    · have HT := Lib.hid (show steepP s l k.items = false by rw [← hst, List.take_of_length_le (by rw [HN.out]; omega), List.take_of_length_le (by rw [HKN.out]; omega)])
      clear hst
      go_wp2_with fail
      go_ret
      exact ⟨by rw [HT.out]; rfl, HB.out⟩

theorem its_set : ∀ (l : List (Int × Cl)) (j : Nat) (x : Int × Cl) (y : Cl), l[j]? = some x → (((itsCells l).set (j * 4 + 1) (.int .i64 y.surf)).set (j * 4 + 1 + 1) (.int .i64 y.core)).set (j * 4 + 1 + 1 + 1) (.int .i64 y.stress) = itsCells (l.set j (x.1, y))
  | [], j, x, y, h => by simp at h
  | z :: r, 0, x, y, h => by
    rw [List.getElem?_cons_zero] at h
    injection h with h
    subst h
    rfl
  | z :: r, j + 1, x, y, h => by
    rw [List.getElem?_cons_succ] at h
    rw [List.set_cons_succ, itsCells_cons, itsCells_cons, ← its_set r j x y h, show (j + 1) * 4 + 1 = j * 4 + 1 + 4 by omega]
    rfl
def mix (f : Int × Cl → Int × Cl) (l : List (Int × Cl)) (j : Nat) : List (Int × Cl) := (l.take j).map f ++ l.drop j
theorem mix_len (f : Int × Cl → Int × Cl) {l : List (Int × Cl)} {j : Nat} (h : j ≤ l.length) : (mix f l j).length = l.length := by
  unfold mix; rw [List.length_append, List.length_map, List.length_take, List.length_drop]; omega
theorem mix_at (f : Int × Cl → Int × Cl) {l : List (Int × Cl)} {j : Nat} (h : j < l.length) : (mix f l j)[j]? = l[j]? := by
  unfold mix
  have e : ((l.take j).map f).length = j := by rw [List.length_map, List.length_take]; omega
  rw [List.getElem?_append_right (by omega), e, Nat.sub_self, List.getElem?_drop, Nat.add_zero]
theorem mix_step (f : Int × Cl → Int × Cl) {l : List (Int × Cl)} {j : Nat} {x : Int × Cl} (h : l[j]? = some x) : (mix f l j).set j (f x) = mix f l (j + 1) := by
  obtain ⟨hj, hx⟩ := List.getElem?_eq_some_iff.1 h
  unfold mix
  have e : ((l.take j).map f).length = j := by rw [List.length_map, List.length_take]; omega
  rw [List.set_append_right _ _ (by omega), e, Nat.sub_self, List.drop_eq_getElem_cons hj, List.set_cons_zero, List.take_add_one, h, List.map_append, List.append_assoc]
  rfl
theorem mix_end (f : Int × Cl → Int × Cl) (l : List (Int × Cl)) : mix f l l.length = l.map f := by
  unfold mix; rw [List.take_length, List.drop_length, List.append_nil]
theorem cell_info3 : (Tryd.prog.info? 38).map (·.size) = some 3 := by kernel_rfl
theorem own_at {W : World} {B : Nat} {e : TypeId} {size n g : Nat} {v : Value} {cs : List Value} (h : W.ownsRow B e size v n cs) (hg : v.ownBlock = some g) : B ≤ g ∧ ∃ cur, W.heap[g]? = some (.cells cur e (0, 0)) := by
  rcases h.2 with ⟨rfl, _⟩ | ⟨g', cap, cur, rfl, hb, hgg, _⟩
  · cases hg
  · have h2 : some g' = some g := hg
    injection h2 with h2
    subst h2
    exact ⟨hb, cur, hgg⟩
theorem itsOwn_at {w : World} {base g n c : Nat} {l : List (Int × Cl)} (h : w.ownsRow base 60 4 (.slice (some ⟨g, 0, none⟩) n c) n (itsCells l)) (hl : l.length = n) {i : Nat} {x : Int × Cl} (hx : l[i]? = some x) :
    w.cell? ⟨g, i * 4, none⟩ = some (.int .i64 x.1) ∧ w.cell? ⟨g, i * 4 + 1, none⟩ = some (.int .i64 x.2.surf) ∧ w.cell? ⟨g, i * 4 + 2, none⟩ = some (.int .i64 x.2.core) ∧ w.cell? ⟨g, i * 4 + 3, none⟩ = some (.int .i64 x.2.stress) := by
  have hr := Rd.of_own h
  rw [← hl] at hr
  obtain ⟨b, off, h1, _, d0, d1, d2, d3⟩ := RdIt.at_ (show RdIt w w.heap.size (.slice (some ⟨g, 0, none⟩) l.length c) l from hr) hx
  injection h1 with h1
  injection h1 with e1 e2
  subst e1 e2
  rw [Nat.zero_add] at d0 d1 d2 d3
  exact ⟨d0, d1, d2, d3⟩

set_option maxRecDepth 100000 in
set_option maxHeartbeats 8000000 in
theorem dried_any (W : World) (g : Nat) (sc : Sc) (s : Sp) (sv iv : Value) (k : Ki) (fan : Bool) (h : KnAt W g sc s sv iv k) (hs : SpOk s) (ha : airOk k.cm) (hi : ∀ x ∈ k.items, ClOk x.2 ∧ 1 ≤ x.1 ∧ x.1 ≤ 600) (hl : 0 < k.items.length ∧ k.items.length ≤ 1024) :
    Calls Tryd.prog 41 #[.pointer (some ⟨g, 0, none⟩), .bool fan] W (ClonePostI (driedP s k.cm fan k.items) W) := by
  obtain ⟨A, c, rfl, hc, hml⟩ := h.it.form
  have q0 := h.cell (j := 16) rfl
  have HK := Lib.hid h
  have HI := Lib.hid hi
  have HS := Lib.hid hs
  have HA := Lib.hid ha
  have hsz := h.sz
  obtain ⟨n, hn⟩ : ∃ n, k.items.length = n := ⟨_, rfl⟩
  have HN := Lib.hid hn
  rw [hn] at hl
  have hcl := cloneI_any k.items A c W h.it (by omega)
  rw [hn] at hcl q0
  have HCL := Lib.hid hcl
  clear h hi hs ha hc hml hn hcl
  go_enter Tryd.func41, Tryd.ntmps41
  go_wp2_with fail
  refine HCL.out.mono ?_
  rintro e w1 ⟨A1, c1, rfl, ho, hb1⟩
  rw [HN.out] at ho ⊢
  obtain ⟨g2, hg2⟩ : ∃ g2, A1 = some ⟨g2, 0, none⟩ := by
    rcases ho.2 with ⟨_, h0⟩ | ⟨g2, cap, cur, he, _⟩
    · omega
    · injection he with he _ _; exact ⟨g2, he⟩
  subst hg2
  have hg2W : W.heap.size ≤ g2 := (own_at ho rfl).1
  have HO := Lib.hid ho
  have HB1 := Lib.hid hb1
  clear ho hb1 q0
  go_wp2_with fail
  go_loopw [15] (fun i wr => ∃ j : Nat, j ≤ n ∧ i = .int .i64 j ∧ wr.ownsRow W.heap.size 60 4 (.slice (some ⟨g2, 0, none⟩) n c1) n (itsCells (mix (fun x => (x.1, tickP x.2 s x.1 k.cm fan)) k.items j)) ∧ Below W.heap.size W wr) (fun i _ => n - (intOf i).toNat)
  case atStart => exact ⟨0, by omega, rfl, HO.out, HB1.out⟩
  case round =>
    obtain ⟨j, hj, rfl, ho, hb⟩ := hrel
    have HB := Lib.hid hb
    have HOW := Lib.hid ho
    have hszr := hb.size
    have hg2w : g2 < wr.heap.size := by obtain ⟨_, cur, hcur⟩ := own_at ho rfl; exact (Array.getElem?_eq_some_iff.1 hcur).1
    by_cases hlt : j < n
    · have hx : k.items[j]? = some (k.items[j]'(by rw [HN.out]; exact hlt)) := List.getElem?_eq_getElem _
      obtain ⟨x, hxe⟩ : ∃ x, (k.items[j]'(by rw [HN.out]; exact hlt)) = x := ⟨_, rfl⟩
      rw [hxe] at hx
      have hml := mix_len (fun x => (x.1, tickP x.2 s x.1 k.cm fan)) (l := k.items) (j := j) (by rw [HN.out]; omega)
      have hma := (mix_at (fun x => (x.1, tickP x.2 s x.1 k.cm fan)) (l := k.items) (j := j) (by rw [HN.out]; exact hlt)).trans hx
      obtain ⟨d0, d1, d2, d3⟩ := itsOwn_at ho (by rw [hml, HN.out]) hma
      obtain ⟨hx1, hx2, hx3⟩ := HI.out x (List.mem_of_getElem? hx)
      have HX := Lib.hid hx1
      have HMA := Lib.hid hma
      have HMS := Lib.hid (mix_step (fun x => (x.1, tickP x.2 s x.1 k.cm fan)) hx)
      obtain ⟨W1, hW1⟩ : ∃ W1, wr.alloc (.cells #[.int .i64 x.1, .int .i64 x.2.surf, .int .i64 x.2.core, .int .i64 x.2.stress] 60) = W1 := ⟨_, rfl⟩
      have hbA : Below wr.heap.size wr W1 := by rw [← hW1]; exact bel_alloc (Below.refl _ _)
      have HK1 := Lib.hid (HK.out.below (hb.trans (hbA.mono hszr)))
      have HBW := Lib.hid (hb.trans (hbA.mono hszr))
      have HOW1 := Lib.hid (show W1.ownsRow W.heap.size 60 4 (.slice (some ⟨g2, 0, none⟩) n c1) n _ by rw [← hW1]; exact ho.alloc _)
      have hs1 : W1.heap.size = wr.heap.size + 1 := by rw [← hW1, World.size_alloc]
      have hit : W1.heap[wr.heap.size]? = some (.cells #[.int .i64 x.1, .int .i64 x.2.surf, .int .i64 x.2.core, .int .i64 x.2.stress] 60 (0, 0)) := by rw [← hW1]; exact heap_alloc_last wr _
      have HIT := Lib.hid hit
      have HW1 := Lib.hid hW1
      clear hx hxe hb ho hbA hit hx1 hma hml hW1
      go_upto_region 5 with fail
      rw [HW1.out]
      obtain ⟨T, hT⟩ : ∃ T, tickP x.2 s x.1 k.cm fan = T := ⟨_, rfl⟩
      have D1 : Hid (∀ d os, Calls Tryd.prog 53 #[.agg #[.int .i64 x.2.surf, .int .i64 x.2.core, .int .i64 x.2.stress], .agg (spCells s).toArray, .int .i64 x.1, .agg #[.int .i64 k.cm.temp, .int .i64 k.cm.dep], .bool fan] (grow (redrawn W1 d) os) fun e w' => e = .returned (.agg #[.int .i64 T.surf, .int .i64 T.core, .int .i64 T.stress]) ∧ Below (grow (redrawn W1 d) os).heap.size (grow (redrawn W1 d) os) w') := Lib.hid (fun d os => by rw [← hT]; exact tick_any x.2 s x.1 k.cm fan _ HX.out HS.out ⟨hx2, hx3⟩ HA.out)
      have HTT := Lib.hid hT
      have y0 := cell_regrown (cell_of_box (j := 0) (v := .int .i64 x.1) HIT.out rfl)
      have y1 := cell_regrown (cell_of_box (j := 1) (v := .int .i64 x.2.surf) HIT.out rfl)
      have y2 := cell_regrown (cell_of_box (j := 2) (v := .int .i64 x.2.core) HIT.out rfl)
      have y3 := cell_regrown (cell_of_box (j := 3) (v := .int .i64 x.2.stress) HIT.out rfl)
      have y4 := cell_regrown (HK1.out.cell (j := 17) rfl)
      have y5 := cell_regrown (HK1.out.cell (j := 18) rfl)
      have HSR : Hid (W1.rangeAt g 3 (spCells s)) := Lib.hid (fun j v hv => HK1.out.cell (j := 3 + j) (by
        have h1 := (List.getElem?_eq_some_iff.1 hv).1
        rw [spCells_len] at h1
        rw [← hv]
        match j, h1 with
        | 0, _ | 1, _ | 2, _ | 3, _ | 4, _ | 5, _ | 6, _ | 7, _ | 8, _ | 9, _ | 10, _ | 11, _ | 12, _ => rfl))
      have hgW := HK1.out.sz
      clear d0 d1 d2 d3 hT
      refine wp_region_below_tail 18 (by kernel_rfl) (by kernel_rfl) ?_
      simp only [List.take_succ_cons, List.take_zero, List.drop_succ_cons, List.drop_zero]
      repeat (first
        | ((with_reducible refine quiet_load g 3 (spCells s) ?hw ?hx HSR.out hgW Tryd.underlying24 ?hd ?hi ?_); (case hi => exact sp_info); (case hw => kernel_rfl); (case hx => rfl); (case hd => rfl))
        | (open Go.BigFrame in go_big_quiet_step ((with_reducible exact Calls.regrown_of (D1.out _ _))))
        | (quiet_step ((with_reducible exact Calls.regrown_of (D1.out _ _)))))
      refine wpQuiet_nil ?_
      intro w2 hb2
      have hO2 : w2.ownsRow W.heap.size 60 4 (.slice (some ⟨g2, 0, none⟩) n c1) n (itsCells (mix (fun x => (x.1, tickP x.2 s x.1 k.cm fan)) k.items j)) := HOW1.out.kept (row := none) ⟨hb2.os, hb2.tape, hb2.output, hb2.size, fun k hk _ => hb2.block k hk⟩ (.inr (fun e => by cases e))
      have hml := mix_len (fun x => (x.1, tickP x.2 s x.1 k.cm fan)) (l := k.items) (j := j) (by rw [HN.out]; omega)
      obtain ⟨d0, d1, d2, d3⟩ := itsOwn_at hO2 (by rw [hml, HN.out]) HMA.out
      have f1 := hO2.frozenAt (j * 4 + 1)
      have f2 := hO2.frozenAt (j * 4 + 1 + 1)
      have f3 := hO2.frozenAt (j * 4 + 1 + 1 + 1)
      have hE := (((hO2.stored (j * 4 + 1) (.int .i64 T.surf)).1.stored (j * 4 + 1 + 1) (.int .i64 T.core)).1.stored (j * 4 + 1 + 1 + 1) (.int .i64 T.stress)).1
      rw [its_set _ _ _ _ HMA.out, ← HTT.out, HMS.out] at hE
      rw [HTT.out] at hE
      have HE := Lib.hid hE
      have hbw2 := HBW.out.trans (hb2.mono (by omega))
      have HB2 := Lib.hid (Below.setCell (Below.setCell (Below.setCell hbw2 (p := ⟨g2, j * 4 + 1, none⟩) hg2W (.int .i64 T.surf)) (p := ⟨g2, j * 4 + 1 + 1, none⟩) hg2W (.int .i64 T.core)) (p := ⟨g2, j * 4 + 1 + 1 + 1, none⟩) hg2W (.int .i64 T.stress))
      clear hb2 hO2 hml hE hbw2 y0 y1 y2 y3 y4 y5
      go_wp2_with fail
      exact ⟨⟨j + 1, by omega, by go_num, HE.out, HB2.out⟩, by simp [intOf]; omega⟩
    · have HE := Lib.hid (show wr.ownsRow W.heap.size 60 4 (.slice (some ⟨g2, 0, none⟩) n c1) n (itsCells (driedP s k.cm fan k.items)) by
        have h1 := HOW.out
        rw [show j = k.items.length by rw [HN.out]; omega, mix_end] at h1
        exact h1)
      clear ho
      go_wp2_with fail
      go_ret
      have hl2 : (driedP s k.cm fan k.items).length = n := by rw [driedP_len, HN.out]
      exact ⟨some ⟨g2, 0, none⟩, c1, by rw [hl2]; rfl, by rw [hl2]; exact HE.out, HB.out⟩
end Go.Proofs.YthineckpociomaaDoor
