/-
  The contracts of the small functions of sawmilllaw21.
-/
import Derived.Test.YtbmcfodhjibooaaDoorPbC
namespace Go.Proofs.YtbmcfodhjibooaaDoor
open Go.RowKit Saw Go.Sort
theorem flatAt {α : Type} (f : α → List Value) (C : Nat) (hf : ∀ x, (f x).length = C) : ∀ (l : List α) (i : Nat) (x : α), l[i]? = some x → ∀ j, j < C → (l.flatMap f)[i * C + j]? = (f x)[j]?
  | [], i, x, h, _, _ => by simp at h
  | y :: r, 0, x, h, j, hj => by
    rw [List.getElem?_cons_zero] at h
    injection h with h
    subst h
    rw [List.flatMap_cons, List.getElem?_append_left (by rw [hf]; omega), Nat.zero_mul, Nat.zero_add]
  | y :: r, i + 1, x, h, j, hj => by
    rw [List.getElem?_cons_succ] at h
    rw [List.flatMap_cons, List.getElem?_append_right (by rw [hf, Nat.add_mul]; omega), hf, ← flatAt f C hf r i x h j hj]
    congr 1
    rw [Nat.add_mul]
    omega
theorem flatLen {α : Type} (f : α → List Value) (C : Nat) (hf : ∀ x, (f x).length = C) (l : List α) : (l.flatMap f).length = l.length * C := by
  induction l with
  | nil => simp
  | cons x r ih => rw [List.flatMap_cons, List.length_append, hf, ih, List.length_cons, Nat.add_mul]; omega
theorem Rd.form_ {w : World} {B C n : Nat} {v : Value} {xs : List Value} (h : Rd w B C v n xs) : ∃ A c, v = .slice A n c ∧ n ≤ c ∧ n ≤ maxLen := by
  obtain ⟨_, h2, A, c, rfl, hc, _⟩ := h
  exact ⟨A, c, rfl, hc, h2⟩
theorem Rd.cellsAt {α : Type} {f : α → List Value} {C : Nat} (hf : ∀ x, (f x).length = C) {w : World} {B : Nat} {A : Option Addr} {n c : Nat} {l : List α} (h : Rd w B C (.slice A n c) l.length (l.flatMap f)) {i : Nat} {x : α} (hx : l[i]? = some x) :
    ∃ b off, A = some ⟨b, off, none⟩ ∧ b < B ∧ ∀ j v, (f x)[j]? = some v → w.cell? ⟨b, off + i * C + j, none⟩ = some v := by
  obtain ⟨_, _, A', c', he, _, h3⟩ := h
  injection he with h1 h2 h4
  subst h1
  obtain ⟨b, off, rfl, hb, hcell⟩ := h3 (by have := (List.getElem?_eq_some_iff.1 hx).1; omega)
  exact ⟨b, off, rfl, hb, fun j v hv => by
    have hj : j < C := by have := (List.getElem?_eq_some_iff.1 hv).1; rw [hf] at this; exact this
    have := hcell _ _ ((flatAt f C hf l i x hx j hj).trans hv)
    rw [Nat.add_assoc]
    exact this⟩
theorem Rd.rc_at {w : World} {B : Nat} {A : Option Addr} {n c : Nat} {l : List Rc} (h : Rd w B 4 (.slice A n c) l.length (rcsCells l)) {i : Nat} {x : Rc} (hx : l[i]? = some x) :
    ∃ b off, A = some ⟨b, off, none⟩ ∧ b < B ∧ w.cell? ⟨b, off + i * 4, none⟩ = some (.int .i64 x.xa) ∧ w.cell? ⟨b, off + i * 4 + 1, none⟩ = some (.int .i64 x.xb) ∧ w.cell? ⟨b, off + i * 4 + 2, none⟩ = some (.int .i64 x.ya) ∧ w.cell? ⟨b, off + i * 4 + 3, none⟩ = some (.int .i64 x.yb) := by
  obtain ⟨b, off, h1, h2, h3⟩ := Rd.cellsAt (f := rcCells) (fun _ => rfl) h hx
  exact ⟨b, off, h1, h2, h3 0 _ rfl, h3 1 _ rfl, h3 2 _ rfl, h3 3 _ rfl⟩
theorem Rd.lf_at {w : World} {B : Nat} {A : Option Addr} {n c : Nat} {l : List Lf} (h : Rd w B 5 (.slice A n c) l.length (lfsCells l)) {i : Nat} {x : Lf} (hx : l[i]? = some x) :
    ∃ b off, A = some ⟨b, off, none⟩ ∧ b < B ∧ w.cell? ⟨b, off + i * 5, none⟩ = some (.int .i64 x.rect.xa) ∧ w.cell? ⟨b, off + i * 5 + 1, none⟩ = some (.int .i64 x.rect.xb) ∧ w.cell? ⟨b, off + i * 5 + 2, none⟩ = some (.int .i64 x.rect.ya) ∧ w.cell? ⟨b, off + i * 5 + 3, none⟩ = some (.int .i64 x.rect.yb) ∧ w.cell? ⟨b, off + i * 5 + 4, none⟩ = some (.int .i64 x.prod) := by
  obtain ⟨b, off, h1, h2, h3⟩ := Rd.cellsAt (f := lfCells) (fun _ => rfl) h hx
  exact ⟨b, off, h1, h2, h3 0 _ rfl, h3 1 _ rfl, h3 2 _ rfl, h3 3 _ rfl, h3 4 _ rfl⟩

set_option maxRecDepth 100000 in
set_option maxHeartbeats 4000000 in
theorem sameLeaves_any (a b : List Lf) (va vb : Value) (w : World) (ha : Rd w w.heap.size 5 va a.length (lfsCells a)) (hb : Rd w w.heap.size 5 vb b.length (lfsCells b)) :
    Calls Tryd.prog 19 #[va, vb] w (BoolB (decide (a = b)) w) := by
  obtain ⟨A, c, rfl, _, hml⟩ := Rd.form_ ha
  obtain ⟨B, d, rfl, _, hml2⟩ := Rd.form_ hb
  unfold maxLen at hml hml2
  have HA := Lib.hid ha
  have HB := Lib.hid hb
  obtain ⟨la, hla⟩ : ∃ la, a.length = la := ⟨_, rfl⟩
  obtain ⟨lb, hlb⟩ : ∃ lb, b.length = lb := ⟨_, rfl⟩
  obtain ⟨q, hq⟩ : ∃ q, decide (a = b) = q := ⟨_, rfl⟩
  rw [hq]
  have HQ := Lib.hid hq
  have HAv := Lib.hid (show Rd w w.heap.size 5 (.slice A la c) a.length (lfsCells a) from hla ▸ ha)
  have HBv := Lib.hid (show Rd w w.heap.size 5 (.slice B lb d) b.length (lfsCells b) from hlb ▸ hb)
  rw [hla] at hml ⊢
  rw [hlb] at hml2 ⊢
  have HLA := Lib.hid hla
  have HLB := Lib.hid hlb
  clear ha hb hq hla hlb HA HB
  by_cases hl : la = lb
  · subst hl
    go_enter Tryd.func19, Tryd.ntmps19
    go_wp2_with fail
    go_loopw [5] (fun i wr => ∃ k : Nat, k ≤ la ∧ i = .int .i64 k ∧ Below w.heap.size w wr ∧ a.take k = b.take k) (fun i _ => la - (intOf i).toNat)
    case atStart => exact ⟨0, by omega, rfl, Below.refl _ _, rfl⟩
    case round =>
      obtain ⟨k, hk, rfl, hb, htk⟩ := hrel
      have HB5 := Lib.hid hb
      have HTK := Lib.hid htk
      have hsz := hb.size
      clear hb htk
      by_cases hlt : k < la
      · obtain ⟨⟨⟨x1, x2, x3, x4⟩, x5⟩, hx⟩ : ∃ n, a[k]? = some n := ⟨_, List.getElem?_eq_getElem (by rw [HLA.out]; exact hlt)⟩
        obtain ⟨⟨⟨y1, y2, y3, y4⟩, y5⟩, hy⟩ : ∃ n, b[k]? = some n := ⟨_, List.getElem?_eq_getElem (by rw [HLB.out]; exact hlt)⟩
        obtain ⟨ba, oa, hA, hba, qa0, qa1, qa2, qa3, qa4⟩ := Rd.lf_at (Rd.below HAv.out HB5.out) hx
        obtain ⟨bb, ob, hB, hbb, qb0, qb1, qb2, qb3, qb4⟩ := Rd.lf_at (Rd.below HBv.out HB5.out) hy
        subst hA hB
        simp only at qa0 qa1 qa2 qa3 qa4 qb0 qb1 qb2 qb3 qb4
        have HX := Lib.hid hx
        have HY := Lib.hid hy
        have f1 : (0 : Int) ≤ (k : Int) := by omega
        have f2 : (k : Int) < (la : Int) := by omega
        clear hx hy
        have hta : a.take (k + 1) = a.take k ++ [⟨⟨x1, x2, x3, x4⟩, x5⟩] := by rw [List.take_add_one, HX.out]; rfl
        have htb : b.take (k + 1) = b.take k ++ [⟨⟨y1, y2, y3, y4⟩, y5⟩] := by rw [List.take_add_one, HY.out]; rfl
        have HTA := Lib.hid hta
        have HTB := Lib.hid htb
        clear hta htb
        by_cases hxy : x1 = y1 ∧ x2 = y2 ∧ x3 = y3 ∧ x4 = y4 ∧ x5 = y5
        · obtain ⟨rfl, rfl, rfl, rfl, rfl⟩ := hxy
          go_wp2_with fail
          go_quiet (fail)
          go_wp2_with fail
          exact ⟨⟨k + 1, by omega, by go_num, below_drewNn HB5.out _, by rw [HTA.out, HTB.out, HTK.out]⟩, by simp [intOf]; omega⟩
        · have HXY := Lib.hid (show q = false by
            rw [← HQ.out, decide_eq_false_iff_not]
            intro hab
            subst hab
            rw [HX.out] at HY
            have h := HY.out
            injection h with h
            simp only [Lf.mk.injEq, Rc.mk.injEq] at h
            apply hxy
            simp [h])
          have hcc : (¬ x1 = y1) ∨ (x1 = y1 ∧ ¬ x2 = y2) ∨ (x1 = y1 ∧ x2 = y2 ∧ ¬ x3 = y3) ∨ (x1 = y1 ∧ x2 = y2 ∧ x3 = y3 ∧ ¬ x4 = y4) ∨ (x1 = y1 ∧ x2 = y2 ∧ x3 = y3 ∧ x4 = y4 ∧ ¬ x5 = y5) := by omega
          clear hxy
          rcases hcc with hcc | ⟨rfl, hcc⟩ | ⟨rfl, rfl, hcc⟩ | ⟨rfl, rfl, rfl, hcc⟩ | ⟨rfl, rfl, rfl, rfl, hcc⟩
          all_goals
            go_wp2_with fail
            go_quiet (fail)
            go_wp2_with fail
            go_ret
            refine ⟨ret_bool ?_, below_drewNn HB5.out _⟩
            rw [HXY.out]
      · have hkm : k = la := by omega
        subst hkm
        have HZ := Lib.hid (show q = true by
          rw [← HQ.out, decide_eq_true_eq]
          have h := HTK.out
          rw [List.take_of_length_le (by rw [HLA.out]; omega), List.take_of_length_le (by rw [HLB.out]; omega)] at h
          exact h)
        go_wp2_with fail
        go_ret
        exact ⟨ret_bool HZ.out.symm, HB5.out⟩
  · have HZ := Lib.hid (show q = false by
      rw [← HQ.out, decide_eq_false_iff_not]
      intro hab
      exact hl (by rw [← HLA.out, ← HLB.out, hab]))
    have hb1 : ((la : Int) != lb) = true := by rw [bne_iff_ne]; omega
    clear hl
    go_enter Tryd.func19, Tryd.ntmps19
    go_wp2_with fail
    go_ret
    exact ⟨ret_bool HZ.out.symm, Below.refl _ _⟩

set_option maxRecDepth 100000 in
set_option maxHeartbeats 4000000 in
theorem sameRects_any (a b : List Rc) (va vb : Value) (w : World) (ha : Rd w w.heap.size 4 va a.length (rcsCells a)) (hb : Rd w w.heap.size 4 vb b.length (rcsCells b)) :
    Calls Tryd.prog 20 #[va, vb] w (BoolB (decide (a = b)) w) := by
  obtain ⟨A, c, rfl, _, hml⟩ := Rd.form_ ha
  obtain ⟨B, d, rfl, _, hml2⟩ := Rd.form_ hb
  unfold maxLen at hml hml2
  have HA := Lib.hid ha
  have HB := Lib.hid hb
  obtain ⟨la, hla⟩ : ∃ la, a.length = la := ⟨_, rfl⟩
  obtain ⟨lb, hlb⟩ : ∃ lb, b.length = lb := ⟨_, rfl⟩
  obtain ⟨q, hq⟩ : ∃ q, decide (a = b) = q := ⟨_, rfl⟩
  rw [hq]
  have HQ := Lib.hid hq
  have HAv := Lib.hid (show Rd w w.heap.size 4 (.slice A la c) a.length (rcsCells a) from hla ▸ ha)
  have HBv := Lib.hid (show Rd w w.heap.size 4 (.slice B lb d) b.length (rcsCells b) from hlb ▸ hb)
  rw [hla] at hml ⊢
  rw [hlb] at hml2 ⊢
  have HLA := Lib.hid hla
  have HLB := Lib.hid hlb
  clear ha hb hq hla hlb HA HB
  by_cases hl : la = lb
  · subst hl
    go_enter Tryd.func20, Tryd.ntmps20
    go_wp2_with fail
    go_loopw [5] (fun i wr => ∃ k : Nat, k ≤ la ∧ i = .int .i64 k ∧ Below w.heap.size w wr ∧ a.take k = b.take k) (fun i _ => la - (intOf i).toNat)
    case atStart => exact ⟨0, by omega, rfl, Below.refl _ _, rfl⟩
    case round =>
      obtain ⟨k, hk, rfl, hb, htk⟩ := hrel
      have HB5 := Lib.hid hb
      have HTK := Lib.hid htk
      have hsz := hb.size
      clear hb htk
      by_cases hlt : k < la
      · obtain ⟨⟨x1, x2, x3, x4⟩, hx⟩ : ∃ n, a[k]? = some n := ⟨_, List.getElem?_eq_getElem (by rw [HLA.out]; exact hlt)⟩
        obtain ⟨⟨y1, y2, y3, y4⟩, hy⟩ : ∃ n, b[k]? = some n := ⟨_, List.getElem?_eq_getElem (by rw [HLB.out]; exact hlt)⟩
        obtain ⟨ba, oa, hA, hba, qa0, qa1, qa2, qa3⟩ := Rd.rc_at (Rd.below HAv.out HB5.out) hx
        obtain ⟨bb, ob, hB, hbb, qb0, qb1, qb2, qb3⟩ := Rd.rc_at (Rd.below HBv.out HB5.out) hy
        subst hA hB
        simp only at qa0 qa1 qa2 qa3 qb0 qb1 qb2 qb3
        have HX := Lib.hid hx
        have HY := Lib.hid hy
        have f1 : (0 : Int) ≤ (k : Int) := by omega
        have f2 : (k : Int) < (la : Int) := by omega
        clear hx hy
        have hta : a.take (k + 1) = a.take k ++ [⟨x1, x2, x3, x4⟩] := by rw [List.take_add_one, HX.out]; rfl
        have htb : b.take (k + 1) = b.take k ++ [⟨y1, y2, y3, y4⟩] := by rw [List.take_add_one, HY.out]; rfl
        have HTA := Lib.hid hta
        have HTB := Lib.hid htb
        clear hta htb
        by_cases hxy : x1 = y1 ∧ x2 = y2 ∧ x3 = y3 ∧ x4 = y4
        · obtain ⟨rfl, rfl, rfl, rfl⟩ := hxy
          go_wp2_with fail
          go_quiet (fail)
          go_wp2_with fail
          exact ⟨⟨k + 1, by omega, by go_num, below_drewNn HB5.out _, by rw [HTA.out, HTB.out, HTK.out]⟩, by simp [intOf]; omega⟩
        · have HXY := Lib.hid (show q = false by
            rw [← HQ.out, decide_eq_false_iff_not]
            intro hab
            subst hab
            rw [HX.out] at HY
            have h := HY.out
            injection h with h
            simp only [Rc.mk.injEq] at h
            apply hxy
            simp [h])
          have hcc : (¬ x1 = y1) ∨ (x1 = y1 ∧ ¬ x2 = y2) ∨ (x1 = y1 ∧ x2 = y2 ∧ ¬ x3 = y3) ∨ (x1 = y1 ∧ x2 = y2 ∧ x3 = y3 ∧ ¬ x4 = y4) := by omega
          clear hxy
          rcases hcc with hcc | ⟨rfl, hcc⟩ | ⟨rfl, rfl, hcc⟩ | ⟨rfl, rfl, rfl, hcc⟩
          all_goals
            go_wp2_with fail
            go_quiet (fail)
            go_wp2_with fail
            go_ret
            refine ⟨ret_bool ?_, below_drewNn HB5.out _⟩
            rw [HXY.out]
      · have hkm : k = la := by omega
        subst hkm
        have HZ := Lib.hid (show q = true by
          rw [← HQ.out, decide_eq_true_eq]
          have h := HTK.out
          rw [List.take_of_length_le (by rw [HLA.out]; omega), List.take_of_length_le (by rw [HLB.out]; omega)] at h
          exact h)
        go_wp2_with fail
        go_ret
        exact ⟨ret_bool HZ.out.symm, HB5.out⟩
  · have HZ := Lib.hid (show q = false by
      rw [← HQ.out, decide_eq_false_iff_not]
      intro hab
      exact hl (by rw [← HLA.out, ← HLB.out, hab]))
    have hb1 : ((la : Int) != lb) = true := by rw [bne_iff_ne]; omega
    clear hl
    go_enter Tryd.func20, Tryd.ntmps20
    go_wp2_with fail
    go_ret
    exact ⟨ret_bool HZ.out.symm, Below.refl _ _⟩

set_option maxRecDepth 100000 in
set_option maxHeartbeats 2000000 in
theorem sameNodes_any (a b : List Nd) (va vb : Value) (w : World) (ha : RdNd w w.heap.size va a) (hb : RdNd w w.heap.size vb b) :
    Calls Tryd.prog 26 #[va, vb] w (BoolB (decide (a = b)) w) := by
  obtain ⟨A, c, rfl, _, hml⟩ := ha.form
  obtain ⟨B, d, rfl, _, hml2⟩ := hb.form
  obtain ⟨q, hq⟩ : ∃ q, decide (a = b) = q := ⟨_, rfl⟩
  rw [hq]
  have HC := Lib.hid (rSame_any ⟨0, 0, 0, 0⟩ ⟨0, 0, 0, 0⟩ a b _ _ w ha hb)
  rw [show decide ((⟨0, 0, 0, 0⟩ : Rc) = ⟨0, 0, 0, 0⟩ ∧ a = b) = q by rw [← hq]; simp] at HC
  clear ha hb hq
  go_enter Tryd.func26, Tryd.ntmps26
  go_wp2_with fail
  refine HC.out.mono ?_
  rintro e w1 ⟨he, hb⟩
  subst he
  have HB := Lib.hid hb
  clear hb
  go_wp2_with fail
  go_ret
  exact ⟨rfl, HB.out⟩

set_option maxRecDepth 100000 in
set_option maxHeartbeats 1000000 in
theorem rect_any (a b c d : Int) (w : World) : Calls Tryd.prog 40 #[.int .i64 a, .int .i64 b, .int .i64 c, .int .i64 d] w fun e w' => e = .returned (.agg #[.int .i64 a, .int .i64 b, .int .i64 c, .int .i64 d]) ∧ Below w.heap.size w w' := by
  go_enter Tryd.func40, Tryd.ntmps40
  go_wp2_with fail
  refine bodyPost_ret (rc_res Tryd.results40 _ _ w.heap.size ⟨a, b, c, d⟩ rfl (heap_alloc_last w _)) rfl ⟨rfl, by repeat (first | exact Below.refl _ _ | apply bel_alloc)⟩

set_option maxRecDepth 100000 in
set_option maxHeartbeats 1000000 in
theorem swap_any (r : Rc) (w : World) : Calls Tryd.prog 33 #[.agg #[.int .i64 r.xa, .int .i64 r.xb, .int .i64 r.ya, .int .i64 r.yb]] w fun e w' => e = .returned (.agg #[.int .i64 r.ya, .int .i64 r.yb, .int .i64 r.xa, .int .i64 r.xb]) ∧ Below w.heap.size w w' := by
  have h := heap_alloc_last (w.alloc (.cells #[.int .i64 r.xa, .int .i64 r.xb, .int .i64 r.ya, .int .i64 r.yb] 25)) (.cells #[.int .i64 r.ya, .int .i64 r.yb, .int .i64 r.xa, .int .i64 r.xb] 25)
  rw [World.size_alloc] at h
  have H := Lib.hid h
  clear h
  go_enter Tryd.func33, Tryd.ntmps33
  go_wp2_with fail
  refine bodyPost_ret (rc_res Tryd.results33 _ _ (w.heap.size + 1) ⟨r.ya, r.yb, r.xa, r.xb⟩ rfl H.out) rfl ⟨rfl, by repeat (first | exact Below.refl _ _ | apply bel_alloc)⟩

def apartP (a b : Rc) : Bool := decide (min a.xb b.xb ≤ max a.xa b.xa) || decide (min a.yb b.yb ≤ max a.ya b.ya)
set_option maxRecDepth 100000 in
set_option maxHeartbeats 2000000 in
theorem apart_any (a b : Rc) (w : World) : Calls Tryd.prog 32 #[.agg #[.int .i64 a.xa, .int .i64 a.xb, .int .i64 a.ya, .int .i64 a.yb], .agg #[.int .i64 b.xa, .int .i64 b.xb, .int .i64 b.ya, .int .i64 b.yb]] w (BoolB (apartP a b) w) := by
  obtain ⟨q, hq⟩ : ∃ q, apartP a b = q := ⟨_, rfl⟩
  rw [hq]
  unfold apartP at hq
  have HQ := Lib.hid hq
  clear hq
  go_enter Tryd.func32, Tryd.ntmps32
  go_wp2_with fail
  all_goals go_ret
  all_goals refine ⟨ret_bool ?_, by repeat (first | exact Below.refl _ _ | apply bel_alloc)⟩
  all_goals rw [← HQ.out]
  all_goals first
    | (simp_all; done)
    | (simp_all; omega)
    | (rw [Bool.eq_iff_iff]; simp only [Bool.or_eq_true, decide_eq_true_eq]; omega)

set_option maxRecDepth 100000 in
set_option maxHeartbeats 1000000 in
theorem area_any (r : Rc) (w : World) (hr : -600 ≤ r.xa ∧ r.xa ≤ r.xb ∧ r.xb ≤ 600 ∧ -600 ≤ r.ya ∧ r.ya ≤ r.yb ∧ r.yb ≤ 600) : Calls Tryd.prog 31 #[.agg #[.int .i64 r.xa, .int .i64 r.xb, .int .i64 r.ya, .int .i64 r.yb]] w (IntB ((r.xb - r.xa) * (r.yb - r.ya)) w) := by
  obtain ⟨h1, h2, h3, h4, h5, h6⟩ := hr
  have hA : 0 ≤ (r.xb - r.xa) * (r.yb - r.ya) := Int.mul_nonneg (by omega) (by omega)
  have hB : (r.xb - r.xa) * (r.yb - r.ya) ≤ 1200 * 1200 := Int.mul_le_mul (by omega) (by omega) (by omega) (by omega)
  have hw : wrap64 ((r.xb - r.xa) * (r.yb - r.ya)) = (r.xb - r.xa) * (r.yb - r.ya) := IntWalk.wrap64_in _ (by omega)
  have HW := Lib.hid hw
  clear hA hB
  go_enter Tryd.func31, Tryd.ntmps31
  go_wp2_with fail
  go_ret
  exact ⟨ret_int (by first | rfl | exact HW.out), by repeat (first | exact Below.refl _ _ | apply bel_alloc)⟩

end Go.Proofs.YtbmcfodhjibooaaDoor
