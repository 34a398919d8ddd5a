/-
  The contracts of sawmillref19's take, word, mark and amount: readers by value.
-/
import Derived.Test.YtokgonpeolppnaaDoorPrR
import Derived.Test.YtokgonpeolppnaaDoorPrH
namespace Saw
/-- The offset of the first lexeme that does not fit, or -1. -/
def badOf (xs : List Lx) (s : Nat × Bool) : Int := if s.2 then (lxAt xs s.1).off else -1
end Saw
namespace Go.Proofs.YtokgonpeolppnaaDoor
open Go.RowKit Saw

def rrCells (lv : Value) (k : Nat) (bad : Int) : List Value := [lv, .int .i64 k, .int .i64 bad]
theorem rr_info : (Tryd.prog.info? 60).map (·.size) = some 3 := by kernel_rfl
theorem rr_zero : ((Tryd.prog.info? 60).bind (·.zero)) = some (.agg #[.slice none 0 0, .int .i64 0, .int .i64 0]) := by kernel_rfl
theorem rr_one (A : Option Addr) (n c k : Nat) (bad : Int) : (rrCells (.slice A n c) k bad).toArray.toList.all (·.oneCell') = true := rfl
section
variable {ops : Array Oper} {rest : List Oper} {d : Option Tmp} {ty : TypeId} {pos : String} {af : Array Edge} {a : Act} {w : World} {Q : Exit → Act → World → Prop} {p q : Operand}
theorem rr_load (b o : Nat) (lv : Value) (k : Nat) (bad : Int) (hx : a.eval p = .pointer (some ⟨b, o, none⟩)) (hc : w.rangeAt b o (rrCells lv k bad))
    (h : wpList Tryd.prog ops Q rest (a.put d (.agg (rrCells lv k bad).toArray)) w) : wpList Tryd.prog ops Q (⟨d, .load 60 p, ty, pos, af, none⟩ :: rest) a w :=
  wpList_loadAs b o (rrCells lv k bad) hx hc Tryd.underlying60 rfl rr_info h
theorem rr_alloc (h : ∀ c : Array Value, Hid (c.size = 3) → wpList Tryd.prog ops Q rest (a.put d (.pointer (some ⟨w.heap.size, 0, none⟩))) (w.alloc (.cells c 60))) : wpList Tryd.prog ops Q (⟨d, .alloc 60, ty, pos, af, none⟩ :: rest) a w :=
  wpList_allocAs _ rr_zero fun c hc => h c (by rw [hc]; rfl)
theorem rr_put (g : Nat) (A : Option Addr) (n c k : Nat) (bad : Int) (hx : a.eval p = .pointer (some ⟨g, 0, none⟩)) (hy : a.eval q = .agg (rrCells (.slice A n c) k bad).toArray) {old : Array Value} {t' : TypeId} (hg : w.heap[g]? = some (.cells old t' (0, 0))) (hs : Hid (old.size = 3))
    (h : wpList Tryd.prog ops Q rest (a.put d undef) (w.setRow g (rrCells (.slice A n c) k bad).toArray)) : wpList Tryd.prog ops Q (⟨d, .store 60 p q, ty, pos, af, none⟩ :: rest) a w :=
  wpList_storeOld g _ hx hy hg rr_info (hs.out.trans rfl) (rr_one A n c k bad) h
end

theorem set3_heap {W : World} {g : Nat} {a b c x y z : Value} {t : TypeId} (h : W.heap[g]? = some (.cells #[a, b, c] t (0, 0))) : (((W.setCell ⟨g, 0, none⟩ x).setCell ⟨g, 1, none⟩ y).setCell ⟨g, 2, none⟩ z).heap[g]? = some (.cells #[x, y, z] t (0, 0)) := by
  have h1 : (W.setCell ⟨g, 0, none⟩ x).heap[g]? = some (.cells #[x, b, c] t (0, 0)) := by rw [setCell_eq_setRow W g 0 _ _ _ _ h, setRow_heap _ _ _ _ _ _ h]; rfl
  have h2 : ((W.setCell ⟨g, 0, none⟩ x).setCell ⟨g, 1, none⟩ y).heap[g]? = some (.cells #[x, y, c] t (0, 0)) := by rw [setCell_eq_setRow _ g 1 _ _ _ _ h1, setRow_heap _ _ _ _ _ _ h1]; rfl
  rw [setCell_eq_setRow _ g 2 _ _ _ _ h2, setRow_heap _ _ _ _ _ _ h2]; rfl
theorem set3_heap' {W : World} {g : Nat} {cs : Array Value} {t : TypeId} (h : W.heap[g]? = some (.cells cs t (0, 0))) (x : Value) (j : Nat) : (W.setCell ⟨g, j, none⟩ x).heap[g]? = some (.cells (cs.setIfInBounds j x) t (0, 0)) := by rw [setCell_eq_setRow W g j _ _ _ _ h, setRow_heap _ _ _ _ _ _ h]
theorem bel_alloc {w W : World} {ob : Obj} (h : Below w.heap.size w W) : Below w.heap.size w (W.alloc ob) := h.alloc h.size ob
def RTakePost (lv : Value) (xs : List Lx) (s s' : Nat × Bool) (w : World) (e : Ending) (w' : World) : Prop :=
  e = .returned (.tuple #[.agg #[lv, .int .i64 s'.1, .int .i64 (badOf xs s')], .agg #[.int .i64 (lxAt xs s.1).kind, .string (str (lxAt xs s.1).text), .int .i64 (lxAt xs s.1).num, .int .i64 (lxAt xs s.1).off]]) ∧ Below w.heap.size w w'
theorem emp_isN (s : ByteArray) : (!s.toList.isEmpty) = (bts s != []) := by rw [toList_bts]; cases bts s <;> rfl

set_option maxRecDepth 100000 in
set_option maxHeartbeats 400000 in
theorem rtake_any (A0 : Option Addr) (cc : Nat) (xs : List Lx) (s : Nat × Bool) (kind : Int) (t : ByteArray) (w : World) (hl : Rd w w.heap.size 4 (.slice A0 xs.length cc) xs.length (lxsCells xs)) (hkx : s.1 < xs.length) (hk : xs.length < 1000000) (hof : ∀ x ∈ xs, 0 ≤ x.off) :
    Calls Tryd.prog 60 #[.agg #[.slice A0 xs.length cc, .int .i64 s.1, .int .i64 (badOf xs s)], .int .i64 kind, .string t] w (RTakePost (.slice A0 xs.length cc) xs s (nextS xs s (kind, bts t)) w) := by
  obtain ⟨k, f⟩ := s
  simp only at hkx ⊢
  obtain ⟨x, hxe⟩ : ∃ x, lxAt xs k = x := ⟨_, rfl⟩
  have hx := lxAt_some hkx
  rw [hxe] at hx
  have hxo : 0 ≤ x.off := hof x (List.mem_of_getElem? hx)
  obtain ⟨_, hml, A, cp, he, hcp, hcs⟩ := id hl
  injection he with e1 e2 e3
  subst e1 e3
  obtain ⟨b, off, rfl, hb, hcell⟩ := hcs (by omega)
  obtain ⟨k0, k1, k2, k3⟩ := lxs_at xs k x hx
  have d0 := hcell _ _ k0
  have d1 := hcell _ _ k1
  rw [← Nat.add_assoc] at d1
  have d2 := hcell _ _ k2
  rw [← Nat.add_assoc] at d2
  have d3 := hcell _ _ k3
  rw [← Nat.add_assoc] at d3
  unfold maxLen at hml
  have hb1 : b < w.heap.size + 1 := by omega
  have hb2 : b < w.heap.size + 1 + 1 := by omega
  have hb3 : b < w.heap.size + 1 + 1 + 1 := by omega
  clear hl hx hcell hcs k0 k1 k2 k3 hof
  have ht := str_eqC x.text t
  have hu0 := emp_isE t
  have hnx : nextS xs (k, f) (kind, bts t) = (if okS xs (k, f) (kind, bts t) then (k + 1, false) else (k, true)) := rfl
  have hok : okS xs (k, f) (kind, bts t) = (!f && (x.kind == kind && (bts t == [] || x.text == bts t))) := by rw [okS, hxe]; rfl
  unfold RTakePost
  simp only [hxe]
  have hbt : badOf xs (k, true) = x.off := by rw [badOf, if_pos rfl, hxe]
  have hbf : ∀ j, badOf xs (j, false) = -1 := fun j => rfl
  rw [hnx]
  obtain ⟨m, hm⟩ : ∃ m, okS xs (k, f) (kind, bts t) = m := ⟨_, rfl⟩
  rw [hm] at hok ⊢
  clear hm hnx hxe
  cases f with
  | true =>
    simp only [hbt]
    clear ht hu0
    obtain rfl : m = false := by simp [hok]
    clear hok
    simp only [Bool.false_eq_true, if_false, hbt]
    clear hbt hbf
    go_enter Tryd.func60, Tryd.ntmps60
    go_wp2_with fail
    go_region
    go_wp2_with fail
    refine bodyPost_ret (v := .tuple #[.agg #[.slice (some ⟨b, off, none⟩) xs.length cc, .int .i64 k, .int .i64 x.off], .agg #[.int .i64 x.kind, .string (str x.text), .int .i64 x.num, .int .i64 x.off]]) (by simp [results, Tryd.results60, go_sem]) rfl ⟨rfl, ?_⟩
    exact (bel_alloc (bel_alloc (bel_alloc (bel_alloc (Below.refl _ _))))).drew
  | false =>
    simp only [hbf]
    cases hkk : (x.kind != kind) with
    | true =>
      have hke : (x.kind == kind) = false := by simpa using hkk
      rw [hke] at hok
      clear ht hu0 hke
      obtain rfl : m = false := by simp [hok]
      clear hok
      simp only [Bool.false_eq_true, if_false, hbt]
      clear hbt hbf
      go_enter Tryd.func60, Tryd.ntmps60
      go_wp2_with fail
      go_region
      go_wp2_with fail
      refine bodyPost_ret (v := .tuple #[.agg #[.slice (some ⟨b, off, none⟩) xs.length cc, .int .i64 k, .int .i64 x.off], .agg #[.int .i64 x.kind, .string (str x.text), .int .i64 x.num, .int .i64 x.off]]) (by simp [results, Tryd.results60, go_sem]) rfl ⟨rfl, ?_⟩
      exact (bel_alloc (bel_alloc (bel_alloc (bel_alloc (Below.refl _ _))))).drew
    | false =>
      have hke : (x.kind == kind) = true := by simpa using hkk
      rw [hke] at hok
      clear hke
      cases h0 : (bts t == []) with
      | true =>
        rw [h0] at hok hu0
        clear h0 ht
        obtain rfl : m = true := by simp [hok]
        clear hok
        simp only [if_true, hbf]
        clear hbt hbf
        go_enter Tryd.func60, Tryd.ntmps60
        go_wp2_with fail
        go_region
        go_wp2_with fail
        refine bodyPost_ret (v := .tuple #[.agg #[.slice (some ⟨b, off, none⟩) xs.length cc, .int .i64 ((k : Int) + 1), .int .i64 (-1)], .agg #[.int .i64 x.kind, .string (str x.text), .int .i64 x.num, .int .i64 x.off]]) (by simp [results, Tryd.results60, go_sem]) rfl ⟨rfl, ?_⟩
        exact (bel_alloc (bel_alloc (bel_alloc (bel_alloc (Below.refl _ _))))).drew
      | false =>
        rw [h0] at hok hu0
        cases h1 : (x.text == bts t) with
        | true =>
          rw [h1] at hok ht
          clear h0 h1
          obtain rfl : m = true := by simp [hok]
          clear hok
          simp only [if_true, hbf]
          clear hbt hbf
          go_enter Tryd.func60, Tryd.ntmps60
          go_wp2_with fail
          go_region
          go_wp2_with fail
          refine bodyPost_ret (v := .tuple #[.agg #[.slice (some ⟨b, off, none⟩) xs.length cc, .int .i64 ((k : Int) + 1), .int .i64 (-1)], .agg #[.int .i64 x.kind, .string (str x.text), .int .i64 x.num, .int .i64 x.off]]) (by simp [results, Tryd.results60, go_sem]) rfl ⟨rfl, ?_⟩
          exact (bel_alloc (bel_alloc (bel_alloc (bel_alloc (Below.refl _ _))))).drew
        | false =>
          rw [h1] at hok ht
          clear h0 h1
          obtain rfl : m = false := by simp [hok]
          clear hok
          simp only [Bool.false_eq_true, if_false, hbt]
          clear hbt hbf
          go_enter Tryd.func60, Tryd.ntmps60
          go_wp2_with fail
          go_region
          go_wp2_with fail
          refine bodyPost_ret (v := .tuple #[.agg #[.slice (some ⟨b, off, none⟩) xs.length cc, .int .i64 k, .int .i64 x.off], .agg #[.int .i64 x.kind, .string (str x.text), .int .i64 x.num, .int .i64 x.off]]) (by simp [results, Tryd.results60, go_sem]) rfl ⟨rfl, ?_⟩
          exact (bel_alloc (bel_alloc (bel_alloc (bel_alloc (Below.refl _ _))))).drew

def RRPost_word (lv : Value) (xs : List Lx) (s' : Nat × Bool) (w : World) (e : Ending) (w' : World) : Prop := e = .returned (.agg #[lv, .int .i64 s'.1, .int .i64 (badOf xs s')]) ∧ Below w.heap.size w w'
set_option maxRecDepth 100000 in
set_option maxHeartbeats 400000 in
theorem rword_any (A0 : Option Addr) (cc : Nat) (xs : List Lx) (s : Nat × Bool) (t : ByteArray) (pt : List UInt8) (hpt : bts t = pt) (w : World) (hl : Rd w w.heap.size 4 (.slice A0 xs.length cc) xs.length (lxsCells xs)) (hkx : s.1 < xs.length) (hk : xs.length < 1000000) (hof : ∀ x ∈ xs, 0 ≤ x.off) :
    Calls Tryd.prog 59 #[.agg #[.slice A0 xs.length cc, .int .i64 s.1, .int .i64 (badOf xs s)], .string t] w (RRPost_word (.slice A0 xs.length cc) xs (nextS xs s (1, pt)) w) := by
  subst hpt
  have HTK := Lib.hid (fun (W : World) (hb : Below w.heap.size w W) => rtake_any A0 cc xs s 1 t W (hl.next hb) hkx hk hof)
  obtain ⟨s', hs'⟩ : ∃ s', nextS xs s (1, bts t) = s' := ⟨_, rfl⟩
  rw [hs'] at HTK ⊢
  obtain ⟨b1, hb1⟩ : ∃ b1, badOf xs s = b1 := ⟨_, rfl⟩
  obtain ⟨b2, hb2⟩ : ∃ b2, badOf xs s' = b2 := ⟨_, rfl⟩
  unfold RTakePost at HTK
  unfold RRPost_word
  simp only [hb1, hb2] at HTK ⊢
  clear hs' hb1 hb2 hl hof
  go_enter Tryd.func59, Tryd.ntmps59
  go_wp2_with ((with_reducible refine rr_alloc ?_); intro c9 H9)
  refine (HTK.out _ (bel_alloc (bel_alloc (Below.refl _ _)))).mono ?_
  rintro e w1 ⟨he, hb⟩
  subst he
  have hz1 : w.heap.size + 1 < w1.heap.size := Nat.lt_of_lt_of_le (by rw [World.size_alloc, World.size_alloc]; omega) hb.size
  have HG0 := Lib.hid ((hb.block w.heap.size (by rw [World.size_alloc, World.size_alloc]; omega)).trans (hpA (heap_alloc_last w _) _))
  have HG1 := Lib.hid (show w1.heap[w.heap.size + 1]? = some (.cells c9 60 (0, 0)) from (hb.block (w.heap.size + 1) (by rw [World.size_alloc, World.size_alloc]; omega)).trans (by have := heap_alloc_last (w.alloc (.cells #[.slice A0 xs.length cc, .int .i64 s.1, .int .i64 b1] 60)) (.cells c9 60); rwa [World.size_alloc] at this))
  have H3 := Lib.hid (show (#[.slice A0 xs.length cc, .int .i64 s.1, .int .i64 b1] : Array Value).size = 3 from rfl)
  have HS0 := Lib.hid (setRow_heap _ _ _ (rrCells (.slice A0 xs.length cc) s'.1 b2).toArray _ _ HG0.out)
  have HS1 := Lib.hid (show (w1.setRow w.heap.size (rrCells (.slice A0 xs.length cc) s'.1 b2).toArray).heap[w.heap.size + 1]? = some (.cells c9 60 (0, 0)) from (setRow_other _ _ _ _ (by omega)).trans HG1.out)
  have HB := Lib.hid ((bel_alloc (bel_alloc (Below.refl w.heap.size w))).trans (hb.mono (by rw [World.size_alloc, World.size_alloc]; omega)))
  clear hb
  go_wp2_with (first
    | ((with_reducible refine rr_put w.heap.size A0 xs.length cc s'.1 b2 ?hx ?hy HG0.out H3 ?_); (case hx => rfl); (case hy => rfl))
    | ((with_reducible refine rr_load w.heap.size 0 (.slice A0 xs.length cc) s'.1 b2 ?hx (rangeAt_block HS0.out) ?_); (case hx => rfl))
    | ((with_reducible refine rr_put (w.heap.size + 1) A0 xs.length cc s'.1 b2 ?hx ?hy HS1.out H9 ?_); (case hx => rfl); (case hy => rfl)))
  refine bodyPost_ret (v := .agg (rrCells (.slice A0 xs.length cc) s'.1 b2).toArray) ?_ rfl ⟨rfl, ?_⟩
  · exact results_cell1 Tryd.results59 _ _ (w.heap.size + 1) 0 (rrCells (.slice A0 xs.length cc) s'.1 b2) rfl (rangeAt_block (setRow_heap _ _ _ _ _ _ HS1.out)) Tryd.underlying60 rfl rr_info
  · exact Below.setRow (Below.setRow HB.out (Nat.le_refl _) _) (by omega) _

def RRPost_mark (lv : Value) (xs : List Lx) (s' : Nat × Bool) (w : World) (e : Ending) (w' : World) : Prop := e = .returned (.agg #[lv, .int .i64 s'.1, .int .i64 (badOf xs s')]) ∧ Below w.heap.size w w'
set_option maxRecDepth 100000 in
set_option maxHeartbeats 400000 in
theorem rmark_any (A0 : Option Addr) (cc : Nat) (xs : List Lx) (s : Nat × Bool) (t : ByteArray) (pt : List UInt8) (hpt : bts t = pt) (w : World) (hl : Rd w w.heap.size 4 (.slice A0 xs.length cc) xs.length (lxsCells xs)) (hkx : s.1 < xs.length) (hk : xs.length < 1000000) (hof : ∀ x ∈ xs, 0 ≤ x.off) :
    Calls Tryd.prog 62 #[.agg #[.slice A0 xs.length cc, .int .i64 s.1, .int .i64 (badOf xs s)], .string t] w (RRPost_mark (.slice A0 xs.length cc) xs (nextS xs s (3, pt)) w) := by
  subst hpt
  have HTK := Lib.hid (fun (W : World) (hb : Below w.heap.size w W) => rtake_any A0 cc xs s 3 t W (hl.next hb) hkx hk hof)
  obtain ⟨s', hs'⟩ : ∃ s', nextS xs s (3, bts t) = s' := ⟨_, rfl⟩
  rw [hs'] at HTK ⊢
  obtain ⟨b1, hb1⟩ : ∃ b1, badOf xs s = b1 := ⟨_, rfl⟩
  obtain ⟨b2, hb2⟩ : ∃ b2, badOf xs s' = b2 := ⟨_, rfl⟩
  unfold RTakePost at HTK
  unfold RRPost_mark
  simp only [hb1, hb2] at HTK ⊢
  clear hs' hb1 hb2 hl hof
  go_enter Tryd.func62, Tryd.ntmps62
  go_wp2_with ((with_reducible refine rr_alloc ?_); intro c9 H9)
  refine (HTK.out _ (bel_alloc (bel_alloc (Below.refl _ _)))).mono ?_
  rintro e w1 ⟨he, hb⟩
  subst he
  have hz1 : w.heap.size + 1 < w1.heap.size := Nat.lt_of_lt_of_le (by rw [World.size_alloc, World.size_alloc]; omega) hb.size
  have HG0 := Lib.hid ((hb.block w.heap.size (by rw [World.size_alloc, World.size_alloc]; omega)).trans (hpA (heap_alloc_last w _) _))
  have HG1 := Lib.hid (show w1.heap[w.heap.size + 1]? = some (.cells c9 60 (0, 0)) from (hb.block (w.heap.size + 1) (by rw [World.size_alloc, World.size_alloc]; omega)).trans (by have := heap_alloc_last (w.alloc (.cells #[.slice A0 xs.length cc, .int .i64 s.1, .int .i64 b1] 60)) (.cells c9 60); rwa [World.size_alloc] at this))
  have H3 := Lib.hid (show (#[.slice A0 xs.length cc, .int .i64 s.1, .int .i64 b1] : Array Value).size = 3 from rfl)
  have HS0 := Lib.hid (setRow_heap _ _ _ (rrCells (.slice A0 xs.length cc) s'.1 b2).toArray _ _ HG0.out)
  have HS1 := Lib.hid (show (w1.setRow w.heap.size (rrCells (.slice A0 xs.length cc) s'.1 b2).toArray).heap[w.heap.size + 1]? = some (.cells c9 60 (0, 0)) from (setRow_other _ _ _ _ (by omega)).trans HG1.out)
  have HB := Lib.hid ((bel_alloc (bel_alloc (Below.refl w.heap.size w))).trans (hb.mono (by rw [World.size_alloc, World.size_alloc]; omega)))
  clear hb
  go_wp2_with (first
    | ((with_reducible refine rr_put w.heap.size A0 xs.length cc s'.1 b2 ?hx ?hy HG0.out H3 ?_); (case hx => rfl); (case hy => rfl))
    | ((with_reducible refine rr_load w.heap.size 0 (.slice A0 xs.length cc) s'.1 b2 ?hx (rangeAt_block HS0.out) ?_); (case hx => rfl))
    | ((with_reducible refine rr_put (w.heap.size + 1) A0 xs.length cc s'.1 b2 ?hx ?hy HS1.out H9 ?_); (case hx => rfl); (case hy => rfl)))
  refine bodyPost_ret (v := .agg (rrCells (.slice A0 xs.length cc) s'.1 b2).toArray) ?_ rfl ⟨rfl, ?_⟩
  · exact results_cell1 Tryd.results62 _ _ (w.heap.size + 1) 0 (rrCells (.slice A0 xs.length cc) s'.1 b2) rfl (rangeAt_block (setRow_heap _ _ _ _ _ _ HS1.out)) Tryd.underlying60 rfl rr_info
  · exact Below.setRow (Below.setRow HB.out (Nat.le_refl _) _) (by omega) _

def RAmtPost (lv : Value) (xs : List Lx) (s s' : Nat × Bool) (w : World) (e : Ending) (w' : World) : Prop := e = .returned (.tuple #[.agg #[lv, .int .i64 s'.1, .int .i64 (badOf xs s')], .int .i64 (lxAt xs s.1).num]) ∧ Below w.heap.size w w'
set_option maxRecDepth 100000 in
set_option maxHeartbeats 400000 in
theorem ramount_any (A0 : Option Addr) (cc : Nat) (xs : List Lx) (s : Nat × Bool) (w : World) (hl : Rd w w.heap.size 4 (.slice A0 xs.length cc) xs.length (lxsCells xs)) (hkx : s.1 < xs.length) (hk : xs.length < 1000000) (hof : ∀ x ∈ xs, 0 ≤ x.off) :
    Calls Tryd.prog 61 #[.agg #[.slice A0 xs.length cc, .int .i64 s.1, .int .i64 (badOf xs s)]] w (RAmtPost (.slice A0 xs.length cc) xs s (nextS xs s (2, [])) w) := by
  have HTK := Lib.hid (fun (W : World) (hb : Below w.heap.size w W) => rtake_any A0 cc xs s 2 ⟨#[]⟩ W (hl.next hb) hkx hk hof)
  rw [show bts ⟨#[]⟩ = [] from rfl] at HTK
  obtain ⟨s', hs'⟩ : ∃ s', nextS xs s (2, []) = s' := ⟨_, rfl⟩
  rw [hs'] at HTK ⊢
  obtain ⟨b1, hb1⟩ : ∃ b1, badOf xs s = b1 := ⟨_, rfl⟩
  obtain ⟨b2, hb2⟩ : ∃ b2, badOf xs s' = b2 := ⟨_, rfl⟩
  obtain ⟨x, hxe⟩ : ∃ x, lxAt xs s.1 = x := ⟨_, rfl⟩
  unfold RTakePost at HTK
  unfold RAmtPost
  simp only [hb1, hb2, hxe] at HTK ⊢
  clear hs' hb1 hb2 hl hof hxe
  go_enter Tryd.func61, Tryd.ntmps61
  go_wp2_with fail
  refine (HTK.out _ (bel_alloc (bel_alloc (Below.refl _ _)))).mono ?_
  rintro e w1 ⟨he, hb⟩
  subst he
  have hz1 : w.heap.size + 1 < w1.heap.size := Nat.lt_of_lt_of_le (by rw [World.size_alloc, World.size_alloc]; omega) hb.size
  have hg0 := (hb.block w.heap.size (by rw [World.size_alloc, World.size_alloc]; omega)).trans (hpA (heap_alloc_last w _) _)
  have hg1 : w1.heap[w.heap.size + 1]? = some (.cells #[.slice none 0 0, .int .i64 0, .int .i64 0] 60 (0, 0)) := (hb.block (w.heap.size + 1) (by rw [World.size_alloc, World.size_alloc]; omega)).trans (by have := heap_alloc_last (w.alloc (.cells #[.slice A0 xs.length cc, .int .i64 s.1, .int .i64 b1] 60)) (.cells #[.slice none 0 0, .int .i64 0, .int .i64 0] 60); rwa [World.size_alloc] at this)
  have H3 := Lib.hid (show (#[.slice A0 xs.length cc, .int .i64 s.1, .int .i64 b1] : Array Value).size = 3 from rfl)
  have HB := Lib.hid ((bel_alloc (bel_alloc (Below.refl w.heap.size w))).trans (hb.mono (by rw [World.size_alloc, World.size_alloc]; omega)))
  have HG0 := Lib.hid hg0
  have HG1 := Lib.hid hg1
  clear hb hg0 hg1
  go_wp2_with (first
    | ((with_reducible refine lx_alloc ?_); intro c9 H9; have HA0 := Lib.hid (hpA HG0.out (.cells c9 58)); have HL0 := Lib.hid (show ((w1.alloc (.cells c9 58)).setRow w.heap.size (rrCells (.slice A0 xs.length cc) s'.1 b2).toArray).heap[w1.heap.size]? = some (.cells c9 58 (0, 0)) from (setRow_other _ _ _ _ (by omega)).trans (heap_alloc_last w1 _)))
    | ((with_reducible refine rr_put w.heap.size A0 xs.length cc s'.1 b2 ?hx ?hy HA0.out H3 ?_); (case hx => rfl); (case hy => rfl))
    | ((with_reducible refine lx_put w1.heap.size x ?hx ?hy HL0.out H9 ?_); (case hx => rfl); (case hy => rfl)))
  obtain ⟨W2, hW2⟩ : ∃ W2, ((w1.alloc (.cells c9 58)).setRow w.heap.size (rrCells (.slice A0 xs.length cc) s'.1 b2).toArray).setRow w1.heap.size (lxCells x).toArray = W2 := ⟨_, rfl⟩
  have g0 : W2.heap[w.heap.size]? = some (.cells (rrCells (.slice A0 xs.length cc) s'.1 b2).toArray 60 (0, 0)) := by rw [← hW2]; exact (setRow_other _ _ _ _ (by omega)).trans (setRow_heap _ _ _ _ _ _ HA0.out)
  have gL : W2.heap[w1.heap.size]? = some (.cells (lxCells x).toArray 58 (0, 0)) := by rw [← hW2]; exact setRow_heap _ _ _ _ _ _ HL0.out
  have g1 : W2.heap[w.heap.size + 1]? = some (.cells #[.slice none 0 0, .int .i64 0, .int .i64 0] 60 (0, 0)) := by rw [← hW2]; exact (setRow_other _ _ _ _ (by omega)).trans ((setRow_other _ _ _ _ (by omega)).trans (hpA HG1.out _))
  have hbW : Below w.heap.size w W2 := by rw [← hW2]; exact Below.setRow (Below.setRow (bel_alloc HB.out) (Nat.le_refl _) _) (by omega) _
  have c0 : W2.cell? ⟨w.heap.size, 0, none⟩ = some (.slice A0 xs.length cc) := by rw [cell_of_row W2 _ 0 _ _ (0, 0) g0]; rfl
  have c1 : W2.cell? ⟨w.heap.size, 1, none⟩ = some (.int .i64 s'.1) := by rw [cell_of_row W2 _ 1 _ _ (0, 0) g0]; rfl
  have c2 : W2.cell? ⟨w.heap.size, 2, none⟩ = some (.int .i64 b2) := by rw [cell_of_row W2 _ 2 _ _ (0, 0) g0]; rfl
  have cl : W2.cell? ⟨w1.heap.size, 2, none⟩ = some (.int .i64 x.num) := by rw [cell_of_row W2 _ 2 _ _ (0, 0) gL]; rfl
  have z0 : W2.cell? ⟨w.heap.size + 1, 0, none⟩ = some (.slice none 0 0) := by rw [cell_of_row W2 _ 0 _ _ (0, 0) g1]; rfl
  have z1 : W2.cell? ⟨w.heap.size + 1, 1, none⟩ = some (.int .i64 0) := by rw [cell_of_row W2 _ 1 _ _ (0, 0) g1]; rfl
  have z2 : W2.cell? ⟨w.heap.size + 1, 2, none⟩ = some (.int .i64 0) := by rw [cell_of_row W2 _ 2 _ _ (0, 0) g1]; rfl
  have f0 : W2.frozen? ⟨w.heap.size + 1, 0, none⟩ = false := by simp [World.frozen?, g1]
  have f1 : W2.frozen? ⟨w.heap.size + 1, 1, none⟩ = false := by simp [World.frozen?, g1]
  have f2 : W2.frozen? ⟨w.heap.size + 1, 2, none⟩ = false := by simp [World.frozen?, g1]
  have hne1 : w1.heap.size ≠ w.heap.size + 1 := by omega
  have HBW := Lib.hid hbW
  rw [hW2]
  clear hW2 hbW HA0 HL0 HG0 HG1
  have HS3 := Lib.hid (show (((W2.setCell ⟨w.heap.size + 1, 0, none⟩ (.slice A0 xs.length cc)).setCell ⟨w.heap.size + 1, 1, none⟩ (.int .i64 s'.1)).setCell ⟨w.heap.size + 1, 2, none⟩ (.int .i64 b2)).drew.heap[w.heap.size + 1]? = _ from set3_heap g1)
  clear g0 gL g1
  go_region
  all_goals
    go_wp2_with fail
    refine bodyPost_ret (v := .tuple #[.agg #[.slice A0 xs.length cc, .int .i64 s'.1, .int .i64 b2], .int .i64 x.num]) ?_ rfl ⟨rfl, ?_⟩
    · exact results_cell2 Tryd.results61 _ _ (w.heap.size + 1) 0 (rrCells (.slice A0 xs.length cc) s'.1 b2) rfl (rangeAt_block HS3.out) Tryd.underlying60 rfl rr_info (.int .i64 x.num) rfl
    · exact (((HBW.out.setCell (by show w.heap.size ≤ w.heap.size + 1; omega) _).setCell (by show w.heap.size ≤ w.heap.size + 1; omega) _).setCell (by show w.heap.size ≤ w.heap.size + 1; omega) _).drew

end Go.Proofs.YtokgonpeolppnaaDoor
