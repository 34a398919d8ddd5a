/-
  The contracts of the reader's methods try and take (package product).
-/
import Derived.Test.YtokgonpeolppnaaDoorPrR
import Derived.Test.YtokgonpeolppnaaDoorPrG
import Derived.Test.YtokgonpeolppnaaDoorLexF
import Derived.BigRegion
namespace Go.Proofs.YtokgonpeolppnaaDoor
open Go.RowKit Saw

/-- The reader's block: its lexemes, its place, whether it failed. -/
def IsPrR (w : World) (rb : Nat) (lv : Value) (k : Nat) (f : Bool) : Prop := w.heap[rb]? = some (.cells #[lv, .int .i64 k, .bool f] 56 (0, 0))

section
variable {w w' : World} {rb B g k : Nat} {lv : Value} {f : Bool}
theorem IsPrR.cells (h : IsPrR w rb lv k f) : w.cell? ⟨rb, 0, none⟩ = some lv ∧ w.cell? ⟨rb, 1, none⟩ = some (.int .i64 k) ∧ w.cell? ⟨rb, 2, none⟩ = some (.bool f) ∧ w.frozen? ⟨rb, 1, none⟩ = false ∧ w.frozen? ⟨rb, 2, none⟩ = false ∧ rb < w.heap.size := by
  refine ⟨?_, ?_, ?_, ?_, ?_, (Array.getElem?_eq_some_iff.1 h).1⟩
  · rw [cell_of_row w rb 0 _ _ (0, 0) h]; rfl
  · rw [cell_of_row w rb 1 _ _ (0, 0) h]; rfl
  · rw [cell_of_row w rb 2 _ _ (0, 0) h]; rfl
  · simp [World.frozen?, show w.heap[rb]? = _ from h]
  · simp [World.frozen?, show w.heap[rb]? = _ from h]
theorem IsPrR.set (h : IsPrR w rb lv k f) (k' : Nat) : IsPrR (w.setCell ⟨rb, 1, none⟩ (.int .i64 k')) rb lv k' f := by
  unfold IsPrR
  rw [setCell_eq_setRow w rb 1 _ _ _ _ h, setRow_heap _ _ _ _ _ _ h]
  rfl
theorem IsPrR.fail (h : IsPrR w rb lv k f) (f' : Bool) : IsPrR (w.setCell ⟨rb, 2, none⟩ (.bool f')) rb lv k f' := by
  unfold IsPrR
  rw [setCell_eq_setRow w rb 2 _ _ _ _ h, setRow_heap _ _ _ _ _ _ h]
  rfl
theorem IsPrR.alloc (h : IsPrR w rb lv k f) (o : Obj) : IsPrR (w.alloc o) rb lv k f :=
  (Below.heap_alloc w o rb (Array.getElem?_eq_some_iff.1 h).1).trans h
theorem IsPrR.below (h : IsPrR w rb lv k f) (hb : Below B w w') (hB : rb < B) : IsPrR w' rb lv k f := (hb.block rb hB).trans h
theorem IsPrR.row (h : IsPrR w rb lv k f) (hne : rb ≠ g) (cs : Array Value) : IsPrR (w.setRow g cs) rb lv k f := (setRow_other _ _ _ _ hne).trans h
theorem IsPrR.setO (h : IsPrR w rb lv k f) {i : Nat} (hne : rb ≠ g) (v : Value) : IsPrR (w.setCell ⟨g, i, none⟩ v) rb lv k f := (Below.heap_setCell _ _ _ _ hne).trans h
end

def TryPost (w : World) (rb : Nat) (lv : Value) (x : Lx) (m : Bool) (s : Nat × Bool) (e : Ending) (w' : World) : Prop :=
  e = .returned (.tuple #[.agg (lxCells x).toArray, .bool m]) ∧ IsPrR w' rb lv s.1 s.2 ∧ w.grownBy w' (some rb)
def TakePrPost (w : World) (rb : Nat) (lv : Value) (x : Lx) (s : Nat × Bool) (e : Ending) (w' : World) : Prop :=
  e = .returned (.agg (lxCells x).toArray) ∧ IsPrR w' rb lv s.1 s.2 ∧ w.grownBy w' (some rb)
theorem str_eqC (a : List UInt8) (s : ByteArray) : ((str a).toList == s.toList) = (a == bts s) := by rw [toList_bts, toList_bts, bts_str]
theorem emp_eqC (s : ByteArray) : (s.toList == (⟨#[]⟩ : ByteArray).toList) = (bts s == []) := by rw [toList_bts, toList_bts]; rfl
theorem emp_isE (s : ByteArray) : s.toList.isEmpty = (bts s == []) := by rw [toList_bts]; cases bts s <;> rfl
theorem emp_neC (s : ByteArray) : (s.toList != (⟨#[]⟩ : ByteArray).toList) = (bts s != []) := by rw [toList_bts, toList_bts]; rfl
theorem str_neC (a : List UInt8) (s : ByteArray) : ((str a).toList != s.toList) = (a != bts s) := by rw [toList_bts, toList_bts, bts_str]

set_option maxRecDepth 100000 in
set_option maxHeartbeats 400000 in
theorem try_pr (w : World) (rb : Nat) (lv : Value) (k : Nat) (f : Bool) (xs : List Lx) (kind : Int) (t : ByteArray) (hr : IsPrR w rb lv k f) (hl : Rd w rb 4 lv xs.length (lxsCells xs)) (hkx : k < xs.length) (hk : k < 1000000) :
    Calls Tryd.prog 53 #[.pointer (some ⟨rb, 0, none⟩), .int .i64 kind, .string t] w (TryPost w rb lv (lexS xs (k, f) (kind, bts t)) (okS xs (k, f) (kind, bts t)) (tryS xs (k, f) (kind, bts t))) := by
  obtain ⟨c0, c1, c2, f1, f2, hrs⟩ := hr.cells
  obtain ⟨x, hxe⟩ : ∃ x, lxAt xs k = x := ⟨_, rfl⟩
  have hx := lxAt_some hkx
  rw [hxe] at hx
  obtain ⟨_, hml, A, cp, rfl, hcp, hcs⟩ := id hl
  obtain ⟨b, off, rfl, hb, hcell⟩ := hcs (by omega)
  obtain ⟨k0, k1, k2, k3⟩ := lxs_at xs k x hx
  have hbs : b < w.heap.size := by omega
  have d0 := hcell _ _ k0
  have d1 := hcell _ _ k1
  rw [← Nat.add_assoc] at d1
  have d2 := hcell _ _ k2
  rw [← Nat.add_assoc] at d2
  have d3 := hcell _ _ k3
  rw [← Nat.add_assoc] at d3
  unfold maxLen at hml
  have HR := Lib.hid hr
  clear hr hl hx hcell hcs k0 k1 k2 k3
  have ht := str_eqC x.text t
  have ht0 := emp_eqC t
  have hu := str_neC x.text t
  have hu0 := emp_isE t
  have hlx : lexS xs (k, f) (kind, bts t) = (if okS xs (k, f) (kind, bts t) then x else Lx.zero) := by rw [lexS, hxe]
  have htr : tryS xs (k, f) (kind, bts t) = (if okS xs (k, f) (kind, bts t) then (k + 1, false) else (k, f)) := rfl
  have hok : okS xs (k, f) (kind, bts t) = (!f && (x.kind == kind && (bts t == [] || x.text == bts t))) := by rw [okS, hxe]; rfl
  rw [hlx, htr]
  clear hlx htr hxe
  obtain ⟨m, hm⟩ : ∃ m, okS xs (k, f) (kind, bts t) = m := ⟨_, rfl⟩
  rw [hm] at hok ⊢
  clear hm
  cases f with
  | true =>
    obtain rfl : m = false := by simp [hok]
    clear hok
    clear ht ht0 hu hu0
    go_enter Tryd.func53, Tryd.ntmps53
    go_wp2_with fail
    go_region
    go_wp2_with fail
    refine bodyPost_ret (v := .tuple #[.agg #[.int .i64 0, .string ⟨#[]⟩, .int .i64 0, .int .i64 0], .bool false]) (by simp [results, Tryd.results53, go_sem]) rfl ⟨rfl, (HR.out.alloc _).alloc _, gb_drew (gb_alloc (gb_alloc gb_refl _) _)⟩
  | false =>
    cases hkk : (x.kind != kind) with
    | true =>
      have hke : (x.kind == kind) = false := by simpa using hkk
      rw [hke] at hok
      obtain rfl : m = false := by simp [hok]
      clear hok
      clear ht ht0 hu hu0 hke
      go_enter Tryd.func53, Tryd.ntmps53
      go_wp2_with fail
      go_region
      go_wp2_with fail
      refine bodyPost_ret (v := .tuple #[.agg #[.int .i64 0, .string ⟨#[]⟩, .int .i64 0, .int .i64 0], .bool false]) (by simp [results, Tryd.results53, go_sem]) rfl ⟨rfl, (HR.out.alloc _).alloc _, gb_drew (gb_alloc (gb_alloc gb_refl _) _)⟩
    | false =>
      have hke : (x.kind == kind) = true := by simpa using hkk
      rw [hke] at hok
      clear hke
      cases h0 : (bts t == []) with
      | true =>
        have h0' : (bts t != []) = false := by rw [bne, h0]; rfl
        rw [h0] at hok ht0
        rw [h0] at hu0
        obtain rfl : m = true := by simp [hok]
        clear hok
        clear h0 h0' ht hu
        go_enter Tryd.func53, Tryd.ntmps53
        go_wp2_with fail
        go_region
        go_wp2_with fail
        refine bodyPost_ret (v := .tuple #[.agg #[.int .i64 x.kind, .string (str x.text), .int .i64 x.num, .int .i64 x.off], .bool true]) (by simp [results, Tryd.results53, go_sem]) rfl ⟨rfl, ?_, ?_⟩
        · exact ((HR.out.set (k + 1)).alloc _).alloc _
        · exact gb_drew (gb_alloc (gb_alloc (gb_set gb_refl _) _) _)
      | false =>
        have h0' : (bts t != []) = true := by rw [bne, h0]; rfl
        rw [h0] at hok ht0
        rw [h0] at hu0
        cases h1 : (x.text == bts t) with
        | true =>
          have h1' : (x.text != bts t) = false := by rw [bne, h1]; rfl
          rw [h1] at hok ht
          rw [h1'] at hu
          obtain rfl : m = true := by simp [hok]
          clear hok
          clear h0 h0' h1 h1'
          go_enter Tryd.func53, Tryd.ntmps53
          go_wp2_with fail
          go_region
          go_wp2_with fail
          refine bodyPost_ret (v := .tuple #[.agg #[.int .i64 x.kind, .string (str x.text), .int .i64 x.num, .int .i64 x.off], .bool true]) (by simp [results, Tryd.results53, go_sem]) rfl ⟨rfl, ?_, ?_⟩
          · exact ((HR.out.set (k + 1)).alloc _).alloc _
          · exact gb_drew (gb_alloc (gb_alloc (gb_set gb_refl _) _) _)
        | false =>
          have h1' : (x.text != bts t) = true := by rw [bne, h1]; rfl
          rw [h1] at hok ht
          rw [h1'] at hu
          obtain rfl : m = false := by simp [hok]
          clear hok
          clear h0 h0' h1 h1'
          go_enter Tryd.func53, Tryd.ntmps53
          go_wp2_with fail
          go_region
          go_wp2_with fail
          refine bodyPost_ret (v := .tuple #[.agg #[.int .i64 0, .string ⟨#[]⟩, .int .i64 0, .int .i64 0], .bool false]) (by simp [results, Tryd.results53, go_sem]) rfl ⟨rfl, (HR.out.alloc _).alloc _, gb_drew (gb_alloc (gb_alloc gb_refl _) _)⟩

section
variable {ops : Array Oper} {rest : List Oper} {d : Option Tmp} {ty : TypeId} {pos : String} {af : Array Edge} {a : Act} {w : World} {Q : Exit → Act → World → Prop} {p q : Operand}
theorem lx_info : (Tryd.prog.info? 58).map (·.size) = some 4 := by kernel_rfl
theorem lx_zero : ((Tryd.prog.info? 58).bind (·.zero)) = some (.agg #[.int .i64 0, .string ⟨#[]⟩, .int .i64 0, .int .i64 0]) := by kernel_rfl
theorem lx_load (b o : Nat) (x : Lx) (hx : a.eval p = .pointer (some ⟨b, o, none⟩)) (hc : w.rangeAt b o (lxCells x))
    (h : wpList Tryd.prog ops Q rest (a.put d (.agg (lxCells x).toArray)) w) : wpList Tryd.prog ops Q (⟨d, .load 58 p, ty, pos, af, none⟩ :: rest) a w :=
  wpList_loadAs b o (lxCells x) hx hc Tryd.underlying58 rfl lx_info h
theorem lx_alloc (h : ∀ c : Array Value, Hid (c.size = 4) → wpList Tryd.prog ops Q rest (a.put d (.pointer (some ⟨w.heap.size, 0, none⟩))) (w.alloc (.cells c 58))) : wpList Tryd.prog ops Q (⟨d, .alloc 58, ty, pos, af, none⟩ :: rest) a w :=
  wpList_allocAs _ lx_zero fun c hc => h c (by rw [hc]; rfl)
theorem lx_new {c : Array Value} (x : Lx) (N : Nat) (hx : a.eval p = .pointer (some ⟨N, 0, none⟩)) (hN : w.heap.size = N) (hy : a.eval q = .agg (lxCells x).toArray) (hc : Hid (c.size = 4))
    (h : wpList Tryd.prog ops Q rest (a.put d undef) (w.alloc (.cells (lxCells x).toArray 58))) : wpList Tryd.prog ops Q (⟨d, .store 58 p q, ty, pos, af, none⟩ :: rest) a (w.alloc (.cells c 58)) :=
  wpList_storeNew hx hN hy lx_info (hc.out.trans rfl) rfl h
theorem lx_put (g : Nat) (x : Lx) (hx : a.eval p = .pointer (some ⟨g, 0, none⟩)) (hy : a.eval q = .agg (lxCells x).toArray) {old : Array Value} {t' : TypeId} (hg : w.heap[g]? = some (.cells old t' (0, 0))) (hs : Hid (old.size = 4))
    (h : wpList Tryd.prog ops Q rest (a.put d undef) (w.setRow g (lxCells x).toArray)) : wpList Tryd.prog ops Q (⟨d, .store 58 p q, ty, pos, af, none⟩ :: rest) a w :=
  wpList_storeOld g _ hx hy hg lx_info (hs.out.trans rfl) rfl h
end
theorem hpA {w : World} {g : Nat} {o : Obj} (h : w.heap[g]? = some o) (o' : Obj) : (w.alloc o').heap[g]? = some o := (Below.heap_alloc _ _ _ (Array.getElem?_eq_some_iff.1 h).1).trans h
theorem hpS {w : World} {g : Nat} {o : Obj} (h : w.heap[g]? = some o) {g' i : Nat} (hne : g ≠ g') (v : Value) : (w.setCell ⟨g', i, none⟩ v).heap[g]? = some o := (Below.heap_setCell _ _ _ _ hne).trans h

set_option maxRecDepth 100000 in
set_option maxHeartbeats 400000 in
theorem take_pr (w : World) (rb : Nat) (lv : Value) (s : Nat × Bool) (xs : List Lx) (kind : Int) (t : ByteArray) (hr : IsPrR w rb lv s.1 s.2) (hl : Rd w rb 4 lv xs.length (lxsCells xs)) (hkx : s.1 < xs.length) (hk : xs.length < 1000000) :
    Calls Tryd.prog 52 #[.pointer (some ⟨rb, 0, none⟩), .int .i64 kind, .string t] w (TakePrPost w rb lv (lexS xs s (kind, bts t)) (nextS xs s (kind, bts t))) := by
  obtain ⟨k, f⟩ := s
  simp only at hr hkx
  have hrb : rb < w.heap.size := hr.cells.2.2.2.2.2
  have hta := (fun c : Array Value => try_pr (w.alloc (.cells c 58)) rb lv k f xs kind t (hr.alloc _) (hl.below ((Below.refl rb w).alloc (by omega) _)) hkx (by omega))
  have hnx : nextS xs (k, f) (kind, bts t) = (if okS xs (k, f) (kind, bts t) then (k + 1, false) else (k, true)) := rfl
  have htr : tryS xs (k, f) (kind, bts t) = (if okS xs (k, f) (kind, bts t) then (k + 1, false) else (k, f)) := rfl
  simp only [htr] at hta
  rw [hnx]
  obtain ⟨x, hx⟩ : ∃ x, lexS xs (k, f) (kind, bts t) = x := ⟨_, rfl⟩
  obtain ⟨m, hm⟩ : ∃ m, okS xs (k, f) (kind, bts t) = m := ⟨_, rfl⟩
  simp only [hx, hm] at hta
  rw [hx, hm]
  have HTA := Lib.hid hta
  clear hnx htr hx hm hr hl hta
  cases m with
  | true =>
    go_enter Tryd.func52, Tryd.ntmps52
    go_wp2_with ((with_reducible refine lx_alloc ?_); intro c2 H2)
    refine (HTA.out c2).mono ?_
    rintro e w1 ⟨he, hr1, hg1⟩
    subst he
    have hs1 : w.heap.size < w1.heap.size := Nat.lt_of_lt_of_le (by rw [World.size_alloc]; omega) hg1.size
    have q := (hg1.block w.heap.size (by rw [World.size_alloc]; omega) (fun e => by injection e; omega)).trans (heap_alloc_last w _)
    have HG := Lib.hid (gb_trans (gb_alloc (gb_refl (row := some rb)) (.cells c2 58)) hg1)
    have HR1 := Lib.hid (show IsPrR w1 rb lv (k + 1) false from hr1)
    have hrw : rb ≠ w.heap.size := by omega
    have HQ := Lib.hid (show (w1.alloc (.cells (lxCells x).toArray 58)).heap[w.heap.size]? = some (.cells c2 58 (0, 0)) from hpA q _)
    have HN := Lib.hid (show (w1.alloc (.cells (lxCells x).toArray 58)).heap[w1.heap.size]? = some (.cells (lxCells x).toArray 58 (0, 0)) from heap_alloc_last w1 _)
    have HQR := Lib.hid (setRow_heap _ _ _ (lxCells x).toArray _ _ HQ.out)
    clear q hg1 hr1
    go_wp2_with (first
      | ((with_reducible refine lx_alloc ?_); intro c9 H9)
      | ((with_reducible refine lx_new x w1.heap.size ?hx rfl ?hy H9 ?_); (case hx => rfl); (case hy => rfl))
      | ((with_reducible refine lx_load w1.heap.size 0 x ?hx (rangeAt_block HN.out) ?_); (case hx => rfl))
      | ((with_reducible refine lx_put w.heap.size x ?hx ?hy HQ.out H2 ?_); (case hx => rfl); (case hy => rfl)))
    refine bodyPost_ret (v := .agg (lxCells x).toArray) ?_ rfl ⟨rfl, ?_, ?_⟩
    · exact results_cell1 Tryd.results52 _ _ w.heap.size 0 (lxCells x) rfl (rangeAt_block HQR.out) Tryd.underlying58 rfl lx_info
    · exact IsPrR.row (IsPrR.alloc HR1.out _) hrw _
    · exact gb_setRow (gb_alloc HG.out _) (.inr (Nat.le_refl _)) _
  | false =>
    go_enter Tryd.func52, Tryd.ntmps52
    go_wp2_with ((with_reducible refine lx_alloc ?_); intro c2 H2)
    refine (HTA.out c2).mono ?_
    rintro e w1 ⟨he, hr1, hg1⟩
    subst he
    have hs1 : w.heap.size < w1.heap.size := Nat.lt_of_lt_of_le (by rw [World.size_alloc]; omega) hg1.size
    have q := (hg1.block w.heap.size (by rw [World.size_alloc]; omega) (fun e => by injection e; omega)).trans (heap_alloc_last w _)
    have HG := Lib.hid (gb_trans (gb_alloc (gb_refl (row := some rb)) (.cells c2 58)) hg1)
    have HR1 := Lib.hid (show IsPrR w1 rb lv k f from hr1)
    have hrw : rb ≠ w.heap.size := by omega
    have HQ := Lib.hid (show ((w1.setCell ⟨rb, 2, none⟩ (.bool true)).alloc (.cells (lxCells x).toArray 58)).heap[w.heap.size]? = some (.cells c2 58 (0, 0)) from hpA (hpS q (by omega) _) _)
    have HN := Lib.hid (show ((w1.setCell ⟨rb, 2, none⟩ (.bool true)).alloc (.cells (lxCells x).toArray 58)).heap[w1.heap.size]? = some (.cells (lxCells x).toArray 58 (0, 0)) from (by have := heap_alloc_last (w1.setCell ⟨rb, 2, none⟩ (.bool true)) (.cells (lxCells x).toArray 58); rwa [show (w1.setCell ⟨rb, 2, none⟩ (.bool true)).heap.size = w1.heap.size by simp [World.setCell]] at this))
    have HQR := Lib.hid (setRow_heap _ _ _ (lxCells x).toArray _ _ HQ.out)
    clear q hg1 hr1
    obtain ⟨c0, c1, c2, f1, f2, hrs⟩ := HR1.out.cells
    go_wp2_with (first
      | ((with_reducible refine lx_alloc ?_); intro c9 H9)
      | ((with_reducible refine lx_new x w1.heap.size ?hx rfl ?hy H9 ?_); (case hx => rfl); (case hy => rfl))
      | ((with_reducible refine lx_load w1.heap.size 0 x ?hx (rangeAt_block HN.out) ?_); (case hx => rfl))
      | ((with_reducible refine lx_put w.heap.size x ?hx ?hy HQ.out H2 ?_); (case hx => rfl); (case hy => rfl)))
    refine bodyPost_ret (v := .agg (lxCells x).toArray) ?_ rfl ⟨rfl, ?_, ?_⟩
    · exact results_cell1 Tryd.results52 _ _ w.heap.size 0 (lxCells x) rfl (rangeAt_block HQR.out) Tryd.underlying58 rfl lx_info
    · exact IsPrR.row (IsPrR.alloc (IsPrR.fail HR1.out true) _) hrw _
    · exact gb_setRow (gb_alloc (gb_set HG.out _) _) (.inr (Nat.le_refl _)) _

end Go.Proofs.YtokgonpeolppnaaDoor
