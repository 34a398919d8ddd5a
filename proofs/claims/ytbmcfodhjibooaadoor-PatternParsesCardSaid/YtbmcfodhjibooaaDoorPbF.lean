/-
  The contracts of the reader's methods fail, mark, number (package sawmillref21).
-/
import Derived.Test.YtbmcfodhjibooaaDoorPaN
import Derived.Deep.Cut
namespace Go.Proofs.YtbmcfodhjibooaaDoor
open Go.RowKit Saw Go.Sort

/-- The reader's block: its lexemes, its state, its nodes. -/
def IsRs (w : World) (rb : Nat) (lv nv : Value) (s : Ps) : Prop := w.heap[rb]? = some (.cells #[lv, .int .i64 s.k, .int .i64 s.e, .int .i64 s.off, nv] 116 (0, 0))
section
variable {w w' : World} {rb g : Nat} {lv nv : Value} {s : Ps}
theorem IsRs.cells (h : IsRs w rb lv nv s) : w.cell? ⟨rb, 0, none⟩ = some lv ∧ w.cell? ⟨rb, 1, none⟩ = some (.int .i64 s.k) ∧ w.cell? ⟨rb, 2, none⟩ = some (.int .i64 s.e) ∧ w.cell? ⟨rb, 3, none⟩ = some (.int .i64 s.off) ∧ w.cell? ⟨rb, 4, none⟩ = some nv ∧
    (∀ i, w.frozen? ⟨rb, i, none⟩ = false) ∧ rb < w.heap.size := by
  obtain ⟨a0, a1, a2, a3, a4⟩ := cells5 h
  exact ⟨a0, a1, a2, a3, a4, frz h, (Array.getElem?_eq_some_iff.1 h).1⟩
theorem IsRs.below (h : IsRs w rb lv nv s) (hb : Below w.heap.size w w') : IsRs w' rb lv nv s := (hb.block rb (Array.getElem?_eq_some_iff.1 h).1).trans h
theorem IsRs.alloc (h : IsRs w rb lv nv s) (o : Obj) : IsRs (w.alloc o) rb lv nv s := hpA h o
theorem IsRs.setK (h : IsRs w rb lv nv s) {k : Nat} {v : Int} (e : v = k) : IsRs (w.setCell ⟨rb, 1, none⟩ (.int .i64 v)) rb lv nv ⟨k, s.e, s.off⟩ := by
  unfold IsRs
  rw [setCell_eq_setRow w rb 1 _ _ _ _ h, setRow_heap _ _ _ _ _ _ h, e]
  rfl
theorem IsRs.setE (h : IsRs w rb lv nv s) (e : Int) : IsRs (w.setCell ⟨rb, 2, none⟩ (.int .i64 e)) rb lv nv ⟨s.k, e, s.off⟩ := by
  unfold IsRs
  rw [setCell_eq_setRow w rb 2 _ _ _ _ h, setRow_heap _ _ _ _ _ _ h]
  rfl
theorem IsRs.setO (h : IsRs w rb lv nv s) (o : Int) : IsRs (w.setCell ⟨rb, 3, none⟩ (.int .i64 o)) rb lv nv ⟨s.k, s.e, o⟩ := by
  unfold IsRs
  rw [setCell_eq_setRow w rb 3 _ _ _ _ h, setRow_heap _ _ _ _ _ _ h]
  rfl
theorem IsRs.setN (h : IsRs w rb lv nv s) (nv' : Value) : IsRs (w.setCell ⟨rb, 4, none⟩ nv') rb lv nv' s := by
  unfold IsRs
  rw [setCell_eq_setRow w rb 4 _ _ _ _ h, setRow_heap _ _ _ _ _ _ h]
  rfl
end

def RsPost (w : World) (rb : Nat) (lv nv : Value) (s : Ps) (v : Value) (e : Ending) (w' : World) : Prop := e = .returned v ∧ IsRs w' rb lv nv s ∧ w.grownBy w' (some rb)
def RsDone (w : World) (rb : Nat) (lv nv : Value) (s : Ps) (e : Ending) (w' : World) : Prop := (∃ v, e = .returned v) ∧ IsRs w' rb lv nv s ∧ w.grownBy w' (some rb)

set_option maxHeartbeats 1000000 in
theorem fail_rs (w : World) (rb : Nat) (lv nv : Value) (s : Ps) (e off : Int) (hr : IsRs w rb lv nv s) :
    Calls Tryd.prog 69 #[.pointer (some ⟨rb, 0, none⟩), .int .i64 e, .int .i64 off] w (RsDone w rb lv nv (failQ s e off)) := by
  obtain ⟨c0, c1, c2, c3, c4, cf, hrs⟩ := hr.cells
  obtain ⟨t, ht⟩ : ∃ t, failQ s e off = t := ⟨_, rfl⟩
  rw [ht]
  unfold failQ at ht
  have HT := Lib.hid ht
  have HR := Lib.hid hr
  obtain ⟨se, hse⟩ : ∃ se, s.e = se := ⟨_, rfl⟩
  rw [hse] at c2 HT
  clear ht hr
  by_cases h0 : se = 0
  · have hb : (se == 0) = true := by rw [beq_iff_eq]; exact h0
    have HZ := Lib.hid h0
    clear h0
    go_enter Tryd.func69, Tryd.ntmps69
    go_wp2_with fail
    refine bodyPost_ret (results_none rfl _ _ _) rfl ⟨⟨_, rfl⟩, ?_, gb_cell (gb_cell gb_refl)⟩
    have h := (HR.out.setE e).setO off
    rw [← HT.out, if_pos HZ.out]
    exact h
  · have hb : (se == 0) = false := by rw [beq_eq_false_iff_ne]; exact h0
    have HZ := Lib.hid h0
    clear h0
    go_enter Tryd.func69, Tryd.ntmps69
    go_wp2_with fail
    refine bodyPost_ret (results_none rfl _ _ _) rfl ⟨⟨_, rfl⟩, ?_, gb_refl⟩
    rw [← HT.out, if_neg HZ.out]
    exact HR.out


/-- A lexeme's cells. -/
theorem lx_cells {w : World} {B : Nat} {lv : Value} {xs : List Lx} (h : Lxs w B lv xs) {k : Nat} (hk : k < xs.length) : ∃ b off cp, lv = .slice (some ⟨b, off, none⟩) xs.length cp ∧ b < B ∧ w.cell? ⟨b, off + k * 4, none⟩ = some (.int .i64 (lxAt xs k).kind) ∧ w.cell? ⟨b, off + k * 4 + 1, none⟩ = some (.string (str (lxAt xs k).text)) ∧ w.cell? ⟨b, off + k * 4 + 2, none⟩ = some (.int .i64 (lxAt xs k).num) ∧ w.cell? ⟨b, off + k * 4 + 3, none⟩ = some (.int .i64 (lxAt xs k).off) := by
  obtain ⟨_, hml, A, cp, rfl, hcp, hcs⟩ := id h
  obtain ⟨b, off, rfl, hbs, hcell⟩ := hcs (by omega)
  obtain ⟨k0, k1, k2, k3⟩ := lxs_at xs k _ (lxAt_some hk)
  have d0 := hcell _ _ k0
  have d1 := hcell _ _ k1
  rw [← Nat.add_assoc] at d1
  have d2 := hcell _ _ k2
  rw [← Nat.add_assoc] at d2
  have d3 := hcell _ _ k3
  rw [← Nat.add_assoc] at d3
  exact ⟨b, off, cp, rfl, hbs, d0, d1, d2, d3⟩
theorem lx_cells2 {w : World} {B b off n cp : Nat} {xs : List Lx} (h : Lxs w B (.slice (some ⟨b, off, none⟩) n cp) xs) {k : Nat} (hk : k < xs.length) : w.cell? ⟨b, off + k * 4, none⟩ = some (.int .i64 (lxAt xs k).kind) ∧ w.cell? ⟨b, off + k * 4 + 1, none⟩ = some (.string (str (lxAt xs k).text)) ∧ w.cell? ⟨b, off + k * 4 + 2, none⟩ = some (.int .i64 (lxAt xs k).num) ∧ w.cell? ⟨b, off + k * 4 + 3, none⟩ = some (.int .i64 (lxAt xs k).off) := by
  obtain ⟨b', off', cp', e, _, d0, d1, d2, d3⟩ := lx_cells h hk
  injection e with e1 e2 e3
  injection e1 with e1
  injection e1 with e1 e4
  subst e1 e4
  exact ⟨d0, d1, d2, d3⟩
def lxO (x : Lx) : Obj := .cells #[.int .i64 x.kind, .string (str x.text), .int .i64 x.num, .int .i64 x.off] 109

set_option maxRecDepth 100000 in
set_option maxHeartbeats 2000000 in
theorem mark_rs (w : World) (rb B : Nat) (lv nv : Value) (s : Ps) (xs : List Lx) (t : ByteArray) (hr : IsRs w rb lv nv s) (hl : Lxs w B lv xs) (hB : B ≤ rb) (hkx : s.k < xs.length) (hk : xs.length < 1000000) :
    Calls Tryd.prog 96 #[.pointer (some ⟨rb, 0, none⟩), .string t] w (RsDone w rb lv nv (takeQ xs s 3 (bts t))) := by
  obtain ⟨c0, c1, c2, c3, c4, cf, hrs⟩ := hr.cells
  obtain ⟨T, hT⟩ : ∃ T, takeQ xs s 3 (bts t) = T := ⟨_, rfl⟩
  rw [hT]
  obtain ⟨k, e, off⟩ := s
  simp only at c1 c2 c3 hkx
  have HR := Lib.hid hr
  by_cases he : e = 0
  · have heb : (e != 0) = false := by rw [bne_eq_false_iff_eq]; exact he
    obtain ⟨b, o, cp, rfl, hb, d0, d1, d2, d3⟩ := lx_cells hl hkx
    obtain ⟨x, hx⟩ : ∃ x, lxAt xs k = x := ⟨_, rfl⟩
    rw [hx] at d0 d1 d2 d3
    have hbw : b < w.heap.size := by omega
    have hml : xs.length ≤ 1000000 := by omega
    have hq : tryQ xs ⟨k, e, off⟩ 3 (bts t) = (x.kind == 3 && x.text == bts t) := by rw [tryQ, decide_eq_true he, hx, Bool.true_and, lxIs]
    have HT := Lib.hid (show T = if (x.kind == 3 && x.text == bts t) = true then ⟨k + 1, e, off⟩ else failQ ⟨k, e, off⟩ 5 x.off by rw [← hT, takeQ, hq, hx])
    have hte : ((str x.text).toList = t.toList) ↔ (x.text == bts t) = true := by rw [← str_ne, beq_iff_eq]
    have HTE := Lib.hid hte
    have hcase : ((x.kind != 3) = true ∧ (x.kind == 3 && x.text == bts t) = false) ∨ ((x.kind != 3) = false ∧ ¬ (str x.text).toList = t.toList ∧ (x.kind == 3 && x.text == bts t) = false) ∨ ((x.kind != 3) = false ∧ (str x.text).toList = t.toList ∧ (x.kind == 3 && x.text == bts t) = true) := by
      by_cases h3 : x.kind = 3
      · have h31 : (x.kind != 3) = false := by rw [bne_eq_false_iff_eq]; exact h3
        have h32 : (x.kind == 3) = true := by rw [beq_iff_eq]; exact h3
        cases hxt : (x.text == bts t) with
        | true => exact .inr (.inr ⟨h31, hte.2 hxt, by rw [h32]; rfl⟩)
        | false => exact .inr (.inl ⟨h31, fun h => (by have := hte.1 h; rw [hxt] at this; cases this), by rw [h32]; rfl⟩)
      · exact .inl ⟨by rw [bne_iff_ne]; exact h3, by rw [show (x.kind == 3) = false by rw [beq_eq_false_iff_ne]; exact h3]; rfl⟩
    clear hte hq hT hr hl hx he HTE
    have HW1 := Lib.hid (show IsRs (w.alloc (lxO x)).drew rb (.slice (some ⟨b, o, none⟩) xs.length cp) nv ⟨k, e, off⟩ ∧ w.grownBy (w.alloc (lxO x)).drew (some rb) from ⟨HR.out.alloc (lxO x), gb_below (bel_drew (bel_alloc (Below.refl _ _)))⟩)
    rcases hcase with ⟨h3, hm⟩ | ⟨h3, htx, hm⟩ | ⟨h3, htx, hm⟩
    · have HZ := Lib.hid (show T = failQ ⟨k, e, off⟩ 5 x.off by rw [HT.out, hm, if_neg (by decide)])
      clear hm HT
      go_enter Tryd.func96, Tryd.ntmps96
      go_wp2_with fail
      go_region
      go_wp2_with fail
      all_goals
        first
          | (exfalso; simp_all; done)
          | (refine (fail_rs _ rb _ nv ⟨k, e, off⟩ 5 x.off HW1.out.1).mono ?_
             rintro e1 w2 ⟨⟨v2, he⟩, hi, hg⟩
             subst he
             have HI := Lib.hid hi
             have HG := Lib.hid (gb_tr HW1.out.2 hg)
             clear hi hg
             go_wp2_with fail
             refine bodyPost_ret (results_none rfl _ _ _) rfl ⟨⟨_, rfl⟩, ?_, HG.out⟩
             rw [HZ.out]
             exact HI.out)
    · have HZ := Lib.hid (show T = failQ ⟨k, e, off⟩ 5 x.off by rw [HT.out, hm, if_neg (by decide)])
      clear hm HT
      go_enter Tryd.func96, Tryd.ntmps96
      go_wp2_with fail
      go_region
      go_wp2_with fail
      all_goals
        first
          | (exfalso; simp_all; done)
          | (refine (fail_rs _ rb _ nv ⟨k, e, off⟩ 5 x.off HW1.out.1).mono ?_
             rintro e1 w2 ⟨⟨v2, he⟩, hi, hg⟩
             subst he
             have HI := Lib.hid hi
             have HG := Lib.hid (gb_tr HW1.out.2 hg)
             clear hi hg
             go_wp2_with fail
             refine bodyPost_ret (results_none rfl _ _ _) rfl ⟨⟨_, rfl⟩, ?_, HG.out⟩
             rw [HZ.out]
             exact HI.out)
    · have HZ := Lib.hid (show T = ⟨k + 1, e, off⟩ by rw [HT.out, hm, if_pos rfl])
      clear hm HT
      go_enter Tryd.func96, Tryd.ntmps96
      go_wp2_with fail
      go_region
      go_wp2_with fail
      all_goals
        first
          | (exfalso; simp_all; done)
          | (refine bodyPost_ret (results_none rfl _ _ _) rfl ⟨⟨_, rfl⟩, ?_, gb_drew (gb_al (gb_cell gb_refl) _)⟩
             rw [HZ.out]
             exact (HR.out.setK (k := k + 1) (by simp)).alloc _)
  · have heb : (e != 0) = true := by rw [bne_iff_ne]; exact he
    have HZ := Lib.hid (show T = ⟨k, e, off⟩ by rw [← hT]; exact takeQ_bad he)
    clear he hT hr
    go_enter Tryd.func96, Tryd.ntmps96
    go_wp2_with fail
    refine bodyPost_ret (results_none rfl _ _ _) rfl ⟨⟨_, rfl⟩, ?_, gb_refl⟩
    rw [HZ.out]
    exact HR.out

theorem numQ_c1 {xs : List Lx} {s s1 : Ps} {lo hi : Int} {m : Bool} {y : Lx} (hm : tryQ xs s 3 [45] = m) (h1 : num1 xs s = s1) (_he : s1.e = 0) (hy : lxAt xs s1.k = y) (hc : y.kind ≠ 2 ∨ (m = true ∧ y.num = 0)) : numQ xs s lo hi = (0, failQ s1 5 y.off) := by
  have h2 : num2 xs s = failQ s1 5 y.off := by rw [num2, h1, hy, hm, if_pos hc]
  rw [numQ, h2, if_pos (failQ_e (by decide))]
theorem numQ_c2 {xs : List Lx} {s s1 : Ps} {lo hi : Int} {m : Bool} {y : Lx} (hm : tryQ xs s 3 [45] = m) (h1 : num1 xs s = s1) (he : s1.e = 0) (hy : lxAt xs s1.k = y) (hc : ¬ (y.kind ≠ 2 ∨ (m = true ∧ y.num = 0))) (v : Int) (hv : (if m = true then -y.num else y.num) = v) : numQ xs s lo hi = (v, if v < lo ∨ hi < v then failQ ⟨s1.k + 1, 0, s1.off⟩ 9 (lxAt xs s.k).off else ⟨s1.k + 1, 0, s1.off⟩) := by
  have h2 : num2 xs s = s1 := by rw [num2, h1, hy, hm, if_neg hc]
  have h3 : numV xs s = v := by rw [numV, h1, hy, hm, hv]
  rw [numQ, h2, if_neg (by rw [he]; decide), h3, he]
/-- A number as the reference reads it: nothing where there is an error. -/
def numW (q : Int × Ps) : Int := if q.2.e = 0 then q.1 else 0

set_option maxRecDepth 100000 in
set_option maxHeartbeats 4000000 in
theorem number_rs (w : World) (rb B : Nat) (lv nv : Value) (s : Ps) (xs : List Lx) (lo hi : Int) (hr : IsRs w rb lv nv s) (hl : Lxs w B lv xs) (hB : B ≤ rb) (hend : LxEnds xs) (hkx : s.k < xs.length) (hk : xs.length < 1000000) (hnm : ∀ x ∈ xs, 0 ≤ x.num ∧ x.num ≤ 1099511627776) :
    Calls Tryd.prog 68 #[.pointer (some ⟨rb, 0, none⟩), .int .i64 lo, .int .i64 hi] w (RsPost w rb lv nv (numQ xs s lo hi).2 (.int .i64 (numW (numQ xs s lo hi)))) := by
  obtain ⟨c0, c1, c2, c3, c4, cf, hrs⟩ := hr.cells
  obtain ⟨k, e, off⟩ := s
  simp only at c1 c2 c3 hkx
  have HR := Lib.hid hr
  by_cases he : e = 0
  · subst he
    have HLX := Lib.hid hl
    have hs1k : ∀ s1, num1 xs ⟨k, 0, off⟩ = s1 → s1.k < xs.length := fun s1 h => by rw [← h]; exact trySt_in hend (by decide) hkx
    obtain ⟨b, o, cp, rfl, hb, d0, d1, d2, d3⟩ := lx_cells hl hkx
    obtain ⟨x, hx⟩ : ∃ x, lxAt xs k = x := ⟨_, rfl⟩
    rw [hx] at d0 d1 d2 d3
    have HX := Lib.hid hx
    have hbw : b < w.heap.size := by omega
    have hml : xs.length ≤ 1000000 := by omega
    have hq : tryQ xs ⟨k, 0, off⟩ 3 [45] = (x.kind == 3 && x.text == [45]) := by rw [tryQ, hx, lxIs]; rfl
    have hte : ((str x.text).toList = (⟨#[45]⟩ : ByteArray).toList) ↔ (x.text == [45]) = true := by
      have := str_ne x.text ⟨#[45]⟩
      rw [show bts ⟨#[45]⟩ = [45] from rfl] at this
      rw [← this, beq_iff_eq]
    obtain ⟨m, hm⟩ : ∃ m, (x.kind == 3 && x.text == [45]) = m := ⟨_, rfl⟩
    rw [hm] at hq
    have hcase : ((x.kind == 3) = false ∧ m = false) ∨ ((x.kind == 3) = true ∧ ¬ (str x.text).toList = (⟨#[45]⟩ : ByteArray).toList ∧ m = false) ∨ ((x.kind == 3) = true ∧ (str x.text).toList = (⟨#[45]⟩ : ByteArray).toList ∧ m = true) := by
      cases h3 : (x.kind == 3) with
      | true =>
        cases hxt : (x.text == [45]) with
        | true => exact .inr (.inr ⟨rfl, hte.2 hxt, by rw [← hm, h3, hxt]; rfl⟩)
        | false => exact .inr (.inl ⟨rfl, fun h => (by have := hte.1 h; rw [hxt] at this; cases this), by rw [← hm, h3, hxt]; rfl⟩)
      | false => exact .inl ⟨rfl, by rw [← hm, h3]; rfl⟩
    have hs1 : num1 xs ⟨k, 0, off⟩ = if m = true then ⟨k + 1, 0, off⟩ else ⟨k, 0, off⟩ := by rw [num1, trySt, hq]
    have HS1 := Lib.hid hs1
    have HM := Lib.hid hq
    have HSK := Lib.hid hs1k
    have HNM := Lib.hid hnm
    obtain ⟨N, hN⟩ : ∃ N, w.heap.size = N := ⟨_, rfl⟩
    have HN := Lib.hid hN
    obtain ⟨sg, hsg⟩ : ∃ sg : Int, (if m = true then -1 else 1) = sg := ⟨_, rfl⟩
    obtain ⟨k1, hk1⟩ : ∃ k1 : Nat, (if m = true then k + 1 else k) = k1 := ⟨_, rfl⟩
    have HSG := Lib.hid hsg
    have HK1 := Lib.hid hk1
    have HCASE := Lib.hid hcase
    have HW1 := Lib.hid (show IsRs (w.alloc (lxO x)).drew rb (.slice (some ⟨b, o, none⟩) xs.length cp) nv ⟨k, 0, off⟩ ∧ w.grownBy (w.alloc (lxO x)).drew (some rb) ∧ (w.alloc (lxO x)).drew.heap[N]? = some (lxO x) from ⟨HR.out.alloc (lxO x), gb_below (bel_drew (bel_alloc (Below.refl _ _))), hN ▸ heap_alloc_last w (lxO x)⟩)
    have hrN : rb ≠ N := by omega
    have HRN := Lib.hid hrN
    have hBw : B ≤ w.heap.size := by omega
    have HBW := Lib.hid hBw
    clear hBw
    clear hte hq hr hl hx hm hs1 hs1k hend hnm hsg hk1 hcase hN hrN
    rcases HCASE.out with ⟨h3, hm⟩ | ⟨h3, htx, hm⟩ | ⟨h3, htx, hm⟩
    · subst hm
      have HS1' := Lib.hid (show num1 xs ⟨k, 0, off⟩ = ⟨k, 0, off⟩ by rw [HS1.out]; rfl)
      have hk1 : k < xs.length := HSK.out _ HS1'.out
      go_enter Tryd.func68, Tryd.ntmps68
      go_wp2_with fail
      go_region
      go_upto_region 7 with fail
      all_goals
        first
          | (exfalso; simp_all; done)
          | skip
      obtain ⟨W1, hW1⟩ : ∃ W1, (w.alloc (.cells #[.int .i64 x.kind, .string (str x.text), .int .i64 x.num, .int .i64 x.off] 109)).drew = W1 := ⟨_, rfl⟩
      have hi1 : IsRs W1 rb (.slice (some ⟨b, o, none⟩) xs.length cp) nv ⟨k, 0, off⟩ ∧ w.grownBy W1 (some rb) ∧ W1.heap[N]? = some (lxO x) := by
        rw [← hW1]
        exact HW1.out
      rw [HN.out, hW1]
      clear hW1
      have HI1 := Lib.hid hi1
      clear c0 c1 c2 c3 c4 cf hrs d0 d1 d2 d3
      obtain ⟨c0, c1, c2, c3, c4, cf, hrs⟩ := hi1.1.cells
      obtain ⟨d0, d1, d2, d3⟩ := lx_cells2 (HLX.out.kept hi1.2.1 hB HBW.out) hk1
      obtain ⟨y, hy⟩ : ∃ y, lxAt xs k = y := ⟨_, rfl⟩
      rw [hy] at d0 d1 d2 d3
      have hyn : 0 ≤ y.num ∧ y.num ≤ 1099511627776 := by rw [← hy]; exact HNM.out _ (List.mem_of_getElem? (lxAt_some hk1))
      obtain ⟨hy0, hy1⟩ := hyn
      have HY := Lib.hid hy
      obtain ⟨z0, z1, z2, z3⟩ := cells4 hi1.2.2
      have hNW : N < W1.heap.size := (Array.getElem?_eq_some_iff.1 hi1.2.2).1
      have hbW : b < W1.heap.size := by have := hi1.2.1.size; omega
      have hkb : k < 1000000 := by omega
      clear hi1 hy
      have HW2 := Lib.hid (show IsRs (W1.alloc (lxO y)).drew rb (.slice (some ⟨b, o, none⟩) xs.length cp) nv ⟨k, 0, off⟩ ∧ w.grownBy (W1.alloc (lxO y)).drew (some rb) from ⟨HI1.out.1.alloc (lxO y), gb_drew (gb_al HI1.out.2.1 _)⟩)
      by_cases hbad : y.kind ≠ 2 ∨ (false = true ∧ y.num = 0)
      · have HZ := Lib.hid (numQ_c1 (lo := lo) (hi := hi) HM.out HS1'.out rfl HY.out hbad)
        have hb2 : (y.kind != 2) = true := by
          rw [bne_iff_ne]
          rcases hbad with hb | hb
          · exact hb
          · cases hb.1
        clear hbad
        all_goals
          go_region
          go_wp2_with fail
          refine (fail_rs _ rb _ nv ⟨k, 0, off⟩ 5 y.off HW2.out.1).mono ?_
          rintro e1 w2 ⟨⟨v2, he⟩, hi, hg⟩
          subst he
          have HI := Lib.hid hi
          have HG := Lib.hid (gb_tr HW2.out.2 hg)
          clear hi hg
          go_wp2_with fail
          go_ret
          rw [HZ.out]
          exact ⟨by rw [numW, if_neg (failQ_e (by decide))]; rfl, HI.out, HG.out⟩
      · obtain ⟨v, hv⟩ : ∃ v : Int, y.num = v := ⟨_, rfl⟩
        have HZ := Lib.hid (numQ_c2 (lo := lo) (hi := hi) HM.out HS1'.out rfl HY.out hbad v hv)
        rw [HX.out] at HZ
        have hb2 : (y.kind != 2) = false := by rw [bne_eq_false_iff_eq]; exact Decidable.byContradiction fun h => hbad (.inl h)
        have HV := Lib.hid hv
        have HGO := Lib.hid (show IsRs ((W1.setCell ⟨rb, 1, none⟩ (.int .i64 (↑k + 1))).alloc (lxO y)).drew rb (.slice (some ⟨b, o, none⟩) xs.length cp) nv ⟨k + 1, 0, off⟩ ∧ w.grownBy ((W1.setCell ⟨rb, 1, none⟩ (.int .i64 (↑k + 1))).alloc (lxO y)).drew (some rb) from ⟨(HI1.out.1.setK (k := k + 1) (by simp)).alloc (lxO y), gb_drew (gb_al (gb_cell HI1.out.2.1) _)⟩)
        clear hbad hv
        by_cases hr1 : v < lo ∨ hi < v
        · have HZ1 := Lib.hid (show numQ xs ⟨k, 0, off⟩ lo hi = (v, failQ ⟨k + 1, 0, off⟩ 9 x.off) by rw [HZ.out, if_pos hr1])
          clear HZ
          rcases hr1 with hr1 | hr1
          all_goals
            rw [← HV.out] at hr1
            go_region
            go_wp2_with fail
            all_goals
              refine (fail_rs _ rb _ nv ⟨k + 1, 0, off⟩ 9 x.off HGO.out.1).mono ?_
              rintro e1 w2 ⟨⟨v2, he⟩, hi, hg⟩
              subst he
              have HI := Lib.hid hi
              have HG := Lib.hid (gb_tr HGO.out.2 hg)
              clear hi hg
              go_wp2_with fail
              go_ret
              rw [HZ1.out]
              exact ⟨by rw [numW, if_neg (failQ_e (by decide))]; rfl, HI.out, HG.out⟩
        · have HZ1 := Lib.hid (show numQ xs ⟨k, 0, off⟩ lo hi = (v, ⟨k + 1, 0, off⟩) by rw [HZ.out, if_neg hr1])
          have hr2 : ¬ v < lo := fun h => hr1 (.inl h)
          have hr3 : ¬ hi < v := fun h => hr1 (.inr h)
          clear HZ hr1
          rw [← HV.out] at hr2 hr3
          go_region
          go_wp2_with fail
          go_ret
          rw [HZ1.out]
          exact ⟨by rw [numW, if_pos rfl, ← HV.out]; rfl, HGO.out.1, HGO.out.2⟩
    · subst hm
      have HS1' := Lib.hid (show num1 xs ⟨k, 0, off⟩ = ⟨k, 0, off⟩ by rw [HS1.out]; rfl)
      have hk1 : k < xs.length := HSK.out _ HS1'.out
      go_enter Tryd.func68, Tryd.ntmps68
      go_wp2_with fail
      go_region
      go_upto_region 7 with fail
      all_goals
        first
          | (exfalso; simp_all; done)
          | skip
      obtain ⟨W1, hW1⟩ : ∃ W1, (w.alloc (.cells #[.int .i64 x.kind, .string (str x.text), .int .i64 x.num, .int .i64 x.off] 109)).drew = W1 := ⟨_, rfl⟩
      have hi1 : IsRs W1 rb (.slice (some ⟨b, o, none⟩) xs.length cp) nv ⟨k, 0, off⟩ ∧ w.grownBy W1 (some rb) ∧ W1.heap[N]? = some (lxO x) := by
        rw [← hW1]
        exact HW1.out
      rw [HN.out, hW1]
      clear hW1
      have HI1 := Lib.hid hi1
      clear c0 c1 c2 c3 c4 cf hrs d0 d1 d2 d3
      obtain ⟨c0, c1, c2, c3, c4, cf, hrs⟩ := hi1.1.cells
      obtain ⟨d0, d1, d2, d3⟩ := lx_cells2 (HLX.out.kept hi1.2.1 hB HBW.out) hk1
      obtain ⟨y, hy⟩ : ∃ y, lxAt xs k = y := ⟨_, rfl⟩
      rw [hy] at d0 d1 d2 d3
      have hyn : 0 ≤ y.num ∧ y.num ≤ 1099511627776 := by rw [← hy]; exact HNM.out _ (List.mem_of_getElem? (lxAt_some hk1))
      obtain ⟨hy0, hy1⟩ := hyn
      have HY := Lib.hid hy
      obtain ⟨z0, z1, z2, z3⟩ := cells4 hi1.2.2
      have hNW : N < W1.heap.size := (Array.getElem?_eq_some_iff.1 hi1.2.2).1
      have hbW : b < W1.heap.size := by have := hi1.2.1.size; omega
      have hkb : k < 1000000 := by omega
      clear hi1 hy
      have HW2 := Lib.hid (show IsRs (W1.alloc (lxO y)).drew rb (.slice (some ⟨b, o, none⟩) xs.length cp) nv ⟨k, 0, off⟩ ∧ w.grownBy (W1.alloc (lxO y)).drew (some rb) from ⟨HI1.out.1.alloc (lxO y), gb_drew (gb_al HI1.out.2.1 _)⟩)
      by_cases hbad : y.kind ≠ 2 ∨ (false = true ∧ y.num = 0)
      · have HZ := Lib.hid (numQ_c1 (lo := lo) (hi := hi) HM.out HS1'.out rfl HY.out hbad)
        have hb2 : (y.kind != 2) = true := by
          rw [bne_iff_ne]
          rcases hbad with hb | hb
          · exact hb
          · cases hb.1
        clear hbad
        all_goals
          go_region
          go_wp2_with fail
          refine (fail_rs _ rb _ nv ⟨k, 0, off⟩ 5 y.off HW2.out.1).mono ?_
          rintro e1 w2 ⟨⟨v2, he⟩, hi, hg⟩
          subst he
          have HI := Lib.hid hi
          have HG := Lib.hid (gb_tr HW2.out.2 hg)
          clear hi hg
          go_wp2_with fail
          go_ret
          rw [HZ.out]
          exact ⟨by rw [numW, if_neg (failQ_e (by decide))]; rfl, HI.out, HG.out⟩
      · obtain ⟨v, hv⟩ : ∃ v : Int, y.num = v := ⟨_, rfl⟩
        have HZ := Lib.hid (numQ_c2 (lo := lo) (hi := hi) HM.out HS1'.out rfl HY.out hbad v hv)
        rw [HX.out] at HZ
        have hb2 : (y.kind != 2) = false := by rw [bne_eq_false_iff_eq]; exact Decidable.byContradiction fun h => hbad (.inl h)
        have HV := Lib.hid hv
        have HGO := Lib.hid (show IsRs ((W1.setCell ⟨rb, 1, none⟩ (.int .i64 (↑k + 1))).alloc (lxO y)).drew rb (.slice (some ⟨b, o, none⟩) xs.length cp) nv ⟨k + 1, 0, off⟩ ∧ w.grownBy ((W1.setCell ⟨rb, 1, none⟩ (.int .i64 (↑k + 1))).alloc (lxO y)).drew (some rb) from ⟨(HI1.out.1.setK (k := k + 1) (by simp)).alloc (lxO y), gb_drew (gb_al (gb_cell HI1.out.2.1) _)⟩)
        clear hbad hv
        by_cases hr1 : v < lo ∨ hi < v
        · have HZ1 := Lib.hid (show numQ xs ⟨k, 0, off⟩ lo hi = (v, failQ ⟨k + 1, 0, off⟩ 9 x.off) by rw [HZ.out, if_pos hr1])
          clear HZ
          rcases hr1 with hr1 | hr1
          all_goals
            rw [← HV.out] at hr1
            go_region
            go_wp2_with fail
            all_goals
              refine (fail_rs _ rb _ nv ⟨k + 1, 0, off⟩ 9 x.off HGO.out.1).mono ?_
              rintro e1 w2 ⟨⟨v2, he⟩, hi, hg⟩
              subst he
              have HI := Lib.hid hi
              have HG := Lib.hid (gb_tr HGO.out.2 hg)
              clear hi hg
              go_wp2_with fail
              go_ret
              rw [HZ1.out]
              exact ⟨by rw [numW, if_neg (failQ_e (by decide))]; rfl, HI.out, HG.out⟩
        · have HZ1 := Lib.hid (show numQ xs ⟨k, 0, off⟩ lo hi = (v, ⟨k + 1, 0, off⟩) by rw [HZ.out, if_neg hr1])
          have hr2 : ¬ v < lo := fun h => hr1 (.inl h)
          have hr3 : ¬ hi < v := fun h => hr1 (.inr h)
          clear HZ hr1
          rw [← HV.out] at hr2 hr3
          go_region
          go_wp2_with fail
          go_ret
          rw [HZ1.out]
          exact ⟨by rw [numW, if_pos rfl, ← HV.out]; rfl, HGO.out.1, HGO.out.2⟩
    · subst hm
      have HS1' := Lib.hid (show num1 xs ⟨k, 0, off⟩ = ⟨(k + 1), 0, off⟩ by rw [HS1.out]; rfl)
      have hk1 : (k + 1) < xs.length := HSK.out _ HS1'.out
      go_enter Tryd.func68, Tryd.ntmps68
      go_wp2_with fail
      go_region
      go_upto_region 7 with fail
      all_goals
        first
          | (exfalso; simp_all; done)
          | skip
      obtain ⟨W1, hW1⟩ : ∃ W1, ((w.setCell ⟨rb, 1, none⟩ (.int .i64 (↑k + 1))).alloc (.cells #[.int .i64 x.kind, .string (str x.text), .int .i64 x.num, .int .i64 x.off] 109)).drew = W1 := ⟨_, rfl⟩
      have hi1 : IsRs W1 rb (.slice (some ⟨b, o, none⟩) xs.length cp) nv ⟨(k + 1), 0, off⟩ ∧ w.grownBy W1 (some rb) ∧ W1.heap[N]? = some (lxO x) := by
        rw [← hW1]
        exact ⟨(HR.out.setK (k := k + 1) (by simp)).alloc (lxO x), gb_drew (gb_al (gb_cell gb_refl) _), by
          have h := heap_alloc_last (w.setCell ⟨rb, 1, none⟩ (.int .i64 (↑k + 1))) (lxO x)
          rw [show (w.setCell ⟨rb, 1, none⟩ (.int .i64 (↑k + 1))).heap.size = N by rw [← HN.out]; simp [World.setCell]] at h
          exact h⟩
      rw [HN.out, hW1]
      clear hW1
      have HI1 := Lib.hid hi1
      clear c0 c1 c2 c3 c4 cf hrs d0 d1 d2 d3
      obtain ⟨c0, c1, c2, c3, c4, cf, hrs⟩ := hi1.1.cells
      obtain ⟨d0, d1, d2, d3⟩ := lx_cells2 (HLX.out.kept hi1.2.1 hB HBW.out) hk1
      obtain ⟨y, hy⟩ : ∃ y, lxAt xs (k + 1) = y := ⟨_, rfl⟩
      rw [hy] at d0 d1 d2 d3
      have hyn : 0 ≤ y.num ∧ y.num ≤ 1099511627776 := by rw [← hy]; exact HNM.out _ (List.mem_of_getElem? (lxAt_some hk1))
      obtain ⟨hy0, hy1⟩ := hyn
      have HY := Lib.hid hy
      obtain ⟨z0, z1, z2, z3⟩ := cells4 hi1.2.2
      have hNW : N < W1.heap.size := (Array.getElem?_eq_some_iff.1 hi1.2.2).1
      have hbW : b < W1.heap.size := by have := hi1.2.1.size; omega
      have hkb : k < 1000000 := by omega
      clear hi1 hy
      have HW2 := Lib.hid (show IsRs (W1.alloc (lxO y)).drew rb (.slice (some ⟨b, o, none⟩) xs.length cp) nv ⟨(k + 1), 0, off⟩ ∧ w.grownBy (W1.alloc (lxO y)).drew (some rb) from ⟨HI1.out.1.alloc (lxO y), gb_drew (gb_al HI1.out.2.1 _)⟩)
      by_cases hbad : y.kind ≠ 2 ∨ (true = true ∧ y.num = 0)
      · have HZ := Lib.hid (numQ_c1 (lo := lo) (hi := hi) HM.out HS1'.out rfl HY.out hbad)
        have hb2 : (y.kind != 2) = true ∨ ((y.kind != 2) = false ∧ (y.num == 0) = true) := by
          by_cases h : y.kind = 2
          · right
            refine ⟨by rw [bne_eq_false_iff_eq]; exact h, ?_⟩
            rw [beq_iff_eq]
            rcases hbad with hb | hb
            · exact absurd h hb
            · exact hb.2
          · left; rw [bne_iff_ne]; exact h
        clear hbad
        rcases hb2 with hb2 | ⟨hb2, hb3⟩
        all_goals
          go_region
          go_wp2_with fail
          refine (fail_rs _ rb _ nv ⟨(k + 1), 0, off⟩ 5 y.off HW2.out.1).mono ?_
          rintro e1 w2 ⟨⟨v2, he⟩, hi, hg⟩
          subst he
          have HI := Lib.hid hi
          have HG := Lib.hid (gb_tr HW2.out.2 hg)
          clear hi hg
          go_wp2_with fail
          go_ret
          rw [HZ.out]
          exact ⟨by rw [numW, if_neg (failQ_e (by decide))]; rfl, HI.out, HG.out⟩
      · obtain ⟨v, hv⟩ : ∃ v : Int, (-y.num) = v := ⟨_, rfl⟩
        have HZ := Lib.hid (numQ_c2 (lo := lo) (hi := hi) HM.out HS1'.out rfl HY.out hbad v hv)
        rw [HX.out] at HZ
        have hb2 : (y.kind != 2) = false := by rw [bne_eq_false_iff_eq]; exact Decidable.byContradiction fun h => hbad (.inl h)
        have hb3 : (y.num == 0) = false := by rw [beq_eq_false_iff_ne]; exact fun h => hbad (.inr ⟨rfl, h⟩)
        have HV := Lib.hid hv
        have HGO := Lib.hid (show IsRs ((W1.setCell ⟨rb, 1, none⟩ (.int .i64 (↑(k + 1) + 1))).alloc (lxO y)).drew rb (.slice (some ⟨b, o, none⟩) xs.length cp) nv ⟨(k + 1) + 1, 0, off⟩ ∧ w.grownBy ((W1.setCell ⟨rb, 1, none⟩ (.int .i64 (↑(k + 1) + 1))).alloc (lxO y)).drew (some rb) from ⟨(HI1.out.1.setK (k := (k + 1) + 1) (by simp)).alloc (lxO y), gb_drew (gb_al (gb_cell HI1.out.2.1) _)⟩)
        clear hbad hv
        by_cases hr1 : v < lo ∨ hi < v
        · have HZ1 := Lib.hid (show numQ xs ⟨k, 0, off⟩ lo hi = (v, failQ ⟨(k + 1) + 1, 0, off⟩ 9 x.off) by rw [HZ.out, if_pos hr1])
          clear HZ
          rcases hr1 with hr1 | hr1
          all_goals
            rw [← HV.out] at hr1
            go_region
            go_wp2_with fail
            all_goals
              refine (fail_rs _ rb _ nv ⟨(k + 1) + 1, 0, off⟩ 9 x.off HGO.out.1).mono ?_
              rintro e1 w2 ⟨⟨v2, he⟩, hi, hg⟩
              subst he
              have HI := Lib.hid hi
              have HG := Lib.hid (gb_tr HGO.out.2 hg)
              clear hi hg
              go_wp2_with fail
              go_ret
              rw [HZ1.out]
              exact ⟨by rw [numW, if_neg (failQ_e (by decide))]; rfl, HI.out, HG.out⟩
        · have HZ1 := Lib.hid (show numQ xs ⟨k, 0, off⟩ lo hi = (v, ⟨(k + 1) + 1, 0, off⟩) by rw [HZ.out, if_neg hr1])
          have hr2 : ¬ v < lo := fun h => hr1 (.inl h)
          have hr3 : ¬ hi < v := fun h => hr1 (.inr h)
          clear HZ hr1
          rw [← HV.out] at hr2 hr3
          go_region
          go_wp2_with fail
          go_ret
          rw [HZ1.out]
          exact ⟨by rw [numW, if_pos rfl, ← HV.out]; rfl, HGO.out.1, HGO.out.2⟩
  · have heb : (e != 0) = true := by rw [bne_iff_ne]; exact he
    have HZ := Lib.hid (show numQ xs ⟨k, e, off⟩ lo hi = (0, ⟨k, e, off⟩) from numQ_bad he)
    have HE := Lib.hid he
    clear he hr
    go_enter Tryd.func68, Tryd.ntmps68
    go_wp2_with fail
    go_ret
    rw [HZ.out]
    exact ⟨by rw [numW, if_neg HE.out]; rfl, HR.out, gb_refl⟩
end Go.Proofs.YtbmcfodhjibooaaDoor
