/-
  The contracts of the reader's methods skip and take (package wood).
-/
import Derived.Test.YtadflenmdfcflaaDoorSpM
import Derived.Test.YtadflenmdfcflaaDoorLexF
import Derived.Test.YtadflenmdfcflaaDoorPlainA
import Derived.BigRegion
namespace Go.Proofs.YtadflenmdfcflaaDoor
open Go.RowKit Saw

/-- The reader's block: its lexemes, its place, what it found. -/
def IsRdr (w : World) (rb : Nat) (lv : Value) (k : Nat) (fv : Value) : Prop := w.heap[rb]? = some (.cells #[lv, .int .i64 k, fv] 68 (0, 0))

theorem IsRdr.cells {w : World} {rb : Nat} {lv fv : Value} {k : Nat} (h : IsRdr w rb lv k fv) : w.cell? ⟨rb, 0, none⟩ = some lv ∧ w.cell? ⟨rb, 1, none⟩ = some (.int .i64 k) ∧ w.cell? ⟨rb, 2, none⟩ = some fv ∧ w.frozen? ⟨rb, 1, none⟩ = false ∧ w.frozen? ⟨rb, 2, none⟩ = false ∧ rb < w.heap.size := by
  refine ⟨?_, ?_, ?_, ?_, ?_, (Array.getElem?_eq_some_iff.1 h).1⟩
  · rw [cell_of_row w rb 0 _ _ (0, 0) h]; rfl
  · rw [cell_of_row w rb 1 _ _ (0, 0) h]; rfl
  · rw [cell_of_row w rb 2 _ _ (0, 0) h]; rfl
  · simp [World.frozen?, show w.heap[rb]? = _ from h]
  · simp [World.frozen?, show w.heap[rb]? = _ from h]

theorem IsRdr.set {w : World} {rb : Nat} {lv fv : Value} {k : Nat} (h : IsRdr w rb lv k fv) (k' : Nat) : IsRdr (w.setCell ⟨rb, 1, none⟩ (.int .i64 k')) rb lv k' fv := by
  unfold IsRdr
  rw [setCell_eq_setRow w rb 1 _ _ _ _ h, setRow_heap _ _ _ _ _ _ h]
  rfl
theorem IsRdr.alloc {w : World} {rb : Nat} {lv fv : Value} {k : Nat} (h : IsRdr w rb lv k fv) (o : Obj) : IsRdr (w.alloc o) rb lv k fv :=
  (Below.heap_alloc w o rb (Array.getElem?_eq_some_iff.1 h).1).trans h
theorem IsRdr.below {w w' : World} {rb B : Nat} {lv fv : Value} {k : Nat} (h : IsRdr w rb lv k fv) (hb : Below B w w') (hB : rb < B) : IsRdr w' rb lv k fv := (hb.block rb hB).trans h

theorem IsRdr.row {w : World} {rb g : Nat} {lv fv : Value} {k : Nat} (h : IsRdr w rb lv k fv) (hne : rb ≠ g) (cs : Array Value) : IsRdr (w.setRow g cs) rb lv k fv := (setRow_other _ _ _ _ hne).trans h

def SkipPost (w : World) (rb : Nat) (lv fv : Value) (k : Nat) (m : Bool) (e : Ending) (w' : World) : Prop :=
  e = .returned (.bool m) ∧ IsRdr w' rb lv (if m then k + 1 else k) fv ∧ w.grownBy w' (some rb)

theorem lxIs_no {x : Lx} {kind : Int} {t : List UInt8} (h : (x.kind != kind) = true) : lxIs x kind t = false := by
  rw [bne_iff_ne] at h
  rw [lxIs, beq_eq_false_iff_ne.2 h]; rfl
theorem lxIs_text {x : Lx} {kind : Int} {t : List UInt8} (h : (x.kind != kind) = false) : lxIs x kind t = (x.text == t) := by
  rw [bne_eq_false_iff_eq] at h
  rw [lxIs, beq_iff_eq.2 h]; rfl
theorem str_eqB (a : List UInt8) (s : ByteArray) : ((str a).toList == s.toList) = (a == bts s) := by rw [toList_bts, toList_bts, bts_str]

set_option maxRecDepth 100000 in
set_option maxHeartbeats 400000 in
theorem skip_rdr (w : World) (rb : Nat) (lv fv : Value) (k : Nat) (xs : List Lx) (x : Lx) (kind : Int) (t : ByteArray) (hr : IsRdr w rb lv k fv) (hl : Rd w rb 4 lv xs.length (lxsCells xs)) (hx : xs[k]? = some x) (hk : k < 1000000) :
    Calls Tryd.prog 55 #[.pointer (some ⟨rb, 0, none⟩), .int .i64 kind, .string t] w (SkipPost w rb lv fv k (lxIs x kind (bts t))) := by
  obtain ⟨c0, c1, c2, f1, f2, hrs⟩ := hr.cells
  have hkl : k < xs.length := (List.getElem?_eq_some_iff.1 hx).1
  obtain ⟨_, hml, A, cp, rfl, hcp, hcs⟩ := id hl
  obtain ⟨b, off, rfl, hb, hcell⟩ := hcs (by omega)
  obtain ⟨k0, k1, k2, k3⟩ := lxs_at xs k x hx
  have hbs : b < w.heap.size := by omega
  have d0 := hcell _ _ k0
  have d1 := hcell _ _ k1
  rw [← Nat.add_assoc] at d1
  have d2 := hcell _ _ k2
  rw [← Nat.add_assoc] at d2
  have d3 := hcell _ _ k3
  rw [← Nat.add_assoc] at d3
  unfold maxLen at hml
  have HR := Lib.hid hr
  clear hr hl hx hcell hcs k0 k1 k2 k3
  have ht := str_eqB x.text t
  cases hkk : (x.kind != kind) with
  | true =>
    rw [lxIs_no hkk]
    go_enter Tryd.func55, Tryd.ntmps55
    go_wp2_with fail
    go_region
    go_wp2_with fail
    go_ret
    exact ⟨rfl, HR.out.alloc _, gb_drew (gb_alloc gb_refl _)⟩
  | false =>
    rw [lxIs_text hkk]
    cases htt : (x.text == bts t) with
    | false =>
      rw [htt] at ht
      clear htt
      go_enter Tryd.func55, Tryd.ntmps55
      go_wp2_with fail
      go_region
      go_wp2_with fail
      go_ret
      exact ⟨rfl, HR.out.alloc _, gb_drew (gb_alloc gb_refl _)⟩
    | true =>
      rw [htt] at ht
      clear htt
      go_enter Tryd.func55, Tryd.ntmps55
      go_wp2_with fail
      go_region
      go_wp2_with fail
      go_ret
      refine ⟨rfl, ?_, ?_⟩
      · exact (HR.out.set (k + 1)).alloc _
      · exact gb_drew (gb_alloc (gb_set gb_refl _) _)

/-- What take hands back: the lexeme, or none. -/
def TakePost (w : World) (rb : Nat) (lv fv : Value) (k : Nat) (x : Lx) (m : Bool) (e : Ending) (w' : World) : Prop :=
  e = .returned (.tuple #[.agg (lxCells (if m then x else Lx.zero)).toArray, .bool m]) ∧ IsRdr w' rb lv (if m then k + 1 else k) fv ∧ w.grownBy w' (some rb)

set_option maxRecDepth 100000 in
set_option maxHeartbeats 400000 in
theorem take_rdr (w : World) (rb : Nat) (lv fv : Value) (k : Nat) (xs : List Lx) (x : Lx) (kind : Int) (hr : IsRdr w rb lv k fv) (hl : Rd w rb 4 lv xs.length (lxsCells xs)) (hx : xs[k]? = some x) (hk : k < 1000000) :
    Calls Tryd.prog 56 #[.pointer (some ⟨rb, 0, none⟩), .int .i64 kind] w (TakePost w rb lv fv k x (x.kind == kind)) := by
  obtain ⟨c0, c1, c2, f1, f2, hrs⟩ := hr.cells
  have hkl : k < xs.length := (List.getElem?_eq_some_iff.1 hx).1
  obtain ⟨_, hml, A, cp, rfl, hcp, hcs⟩ := id hl
  obtain ⟨b, off, rfl, hb, hcell⟩ := hcs (by omega)
  obtain ⟨k0, k1, k2, k3⟩ := lxs_at xs k x hx
  have hbs : b < w.heap.size := by omega
  have d0 := hcell _ _ k0
  have d1 := hcell _ _ k1
  rw [← Nat.add_assoc] at d1
  have d2 := hcell _ _ k2
  rw [← Nat.add_assoc] at d2
  have d3 := hcell _ _ k3
  rw [← Nat.add_assoc] at d3
  unfold maxLen at hml
  have HR := Lib.hid hr
  clear hr hl hx hcell hcs k0 k1 k2 k3
  cases hkk : (x.kind != kind) with
  | true =>
    have hke : (x.kind == kind) = false := by simpa using hkk
    rw [hke]
    clear hke
    go_enter Tryd.func56, Tryd.ntmps56
    go_wp2_with fail
    go_region
    go_wp2_with fail
    refine bodyPost_ret (v := .tuple #[.agg #[.int .i64 0, .string ⟨#[]⟩, .int .i64 0, .int .i64 0], .bool false]) (by simp [results, Tryd.results56, go_sem]) rfl ⟨rfl, (HR.out.alloc _).alloc _, gb_drew (gb_alloc (gb_alloc gb_refl _) _)⟩
  | false =>
    have hke : (x.kind == kind) = true := by simpa using hkk
    rw [hke]
    clear hke
    go_enter Tryd.func56, Tryd.ntmps56
    go_wp2_with fail
    go_region
    go_wp2_with fail
    refine bodyPost_ret (v := .tuple #[.agg #[.int .i64 x.kind, .string (str x.text), .int .i64 x.num, .int .i64 x.off], .bool true]) (by simp [results, Tryd.results56, go_sem]) rfl ⟨rfl, ?_, ?_⟩
    · exact ((HR.out.set (k + 1)).alloc _).alloc _
    · exact gb_drew (gb_alloc (gb_alloc (gb_set gb_refl _) _) _)

end Go.Proofs.YtadflenmdfcflaaDoor
